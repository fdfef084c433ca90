/- GateShut: its run, out of its pieces. -/
import Derived.Test.YtcebbmappnbegaaGreatDoorGateShutR0
import Derived.Test.YtcebbmappnbegaaGreatDoorGateShutR1
import Derived.Test.YtcebbmappnbegaaGreatDoorGateShutR2
import Derived.Test.YtcebbmappnbegaaGreatDoorGateShutR3
import Derived.Test.YtcebbmappnbegaaGreatDoorGateShutR4
import Derived.Test.YtcebbmappnbegaaGreatDoorGateShutR5
import Derived.Test.YtcebbmappnbegaaGreatDoorGateShutR6
import Derived.Test.YtcebbmappnbegaaGreatDoorGateShutR7
import Derived.Test.YtcebbmappnbegaaGreatDoorGateShutR8
import Derived.Test.YtcebbmappnbegaaGreatDoorGateShutR9
import Derived.Test.YtcebbmappnbegaaGreatDoorGateShutR10
import Derived.Test.YtcebbmappnbegaaGreatDoorGateShutR11
import Derived.Test.YtcebbmappnbegaaGreatDoorGateShutR12
import Derived.Test.YtcebbmappnbegaaGreatDoorGateShutR13
import Derived.Test.YtcebbmappnbegaaGreatDoorGateShutR14
import Derived.Test.YtcebbmappnbegaaGreatDoorGateShutR15
import Derived.Test.YtcebbmappnbegaaGreatDoorYtceLx
set_option linter.unusedSimpArgs false
set_option linter.unusedVariables false
set_option linter.unusedSectionVars false
set_option linter.unnecessarySimpa false
set_option maxRecDepth 100000
namespace Go.Proofs.YtcebbmappnbegaaGreatDoor.gateShut
open Go.Am Go.Proofs.YtcebbmappnbegaaGreatDoor.Facts
theorem sbp1 : runP Tryz.prog Bodies.tabO 99 [.s Cb1] sb0 sb1 4 Pt.done.orc = Pt.done.tr 4 := sap1
theorem sbp2 : runP Tryz.prog Bodies.tabO 99 [.s Cb5] sb1 sb2 4 Pt.done.orc = Pt.done.tr 4 := sap2
theorem sbp3 : runP Tryz.prog Bodies.tabO 99 [.s Cb6] sb2 sb3 4 Pt.done.orc = Pt.done.tr 4 := sap3
theorem sbp6 : runP Tryz.prog Bodies.tabO 99 [.s Cb11] sb5 sb6 4 Pt.done.orc = Pt.done.tr 4 := sap6
theorem sop1 : runP Tryz.prog Bodies.tabO 99 [.s Co1] so0 so1 4 Pt.done.orc = Pt.done.tr 4 := sap1
theorem sop2 : runP Tryz.prog Bodies.tabO 99 [.s Co5] so1 so2 4 Pt.done.orc = Pt.done.tr 4 := sap2
theorem sop3 : runP Tryz.prog Bodies.tabO 99 [.s Co6] so2 so3 4 Pt.done.orc = Pt.done.tr 4 := sap3
theorem upRan (a0 a1 a2 a3 : Int) (kk : List Int) : ∃ h', sem (mkX Tryz.prog) 100000 99 20 [] ⟨409, .l⟩ = some ((.p 596 0), h') ∧ Sub (valH (nmL ([a0, a1, a2, a3] ++ kk)) ut12.h) h' := by
  refine call_of_fin (n := 98) (ρ := nmL ([a0, a1, a2, a3] ++ kk)) Tryz.func20 (by rw [lx]; kernel_rfl) (by kernel_rfl) ?_
  show Fin (mkX Tryz.prog) (sem (mkX Tryz.prog) 100000 98) 100000 Tryz.f20.results.toList _ [.s K0] .n (valE (nmL ([a0, a1, a2, a3] ++ kk)) ut0.e) (valH (nmL ([a0, a1, a2, a3] ++ kk)) ut0.h)
  refine Fin.deep (a := []) (deep_seq K0 [] (by kernel_rfl)) ?_
  show Fin (mkX Tryz.prog) (sem (mkX Tryz.prog) 100000 98) 100000 Tryz.f20.results.toList _ [.s K1, .s K2] .n (valE (nmL ([a0, a1, a2, a3] ++ kk)) ut0.e) (valH (nmL ([a0, a1, a2, a3] ++ kk)) ut0.h)
  refine Fin.deep (a := [.s K1]) (deep_seq K2 [] (by kernel_rfl)) ?_
  show Fin (mkX Tryz.prog) (sem (mkX Tryz.prog) 100000 98) 100000 Tryz.f20.results.toList _ [.s K1, .s K3, .s K4] .n (valE (nmL ([a0, a1, a2, a3] ++ kk)) ut0.e) (valH (nmL ([a0, a1, a2, a3] ++ kk)) ut0.h)
  refine Fin.deep (a := [.s K1, .s K3]) (deep_seq K4 [] (by kernel_rfl)) ?_
  show Fin (mkX Tryz.prog) (sem (mkX Tryz.prog) 100000 98) 100000 Tryz.f20.results.toList _ [.s K1, .s K3, .s K5, .s K6] .n (valE (nmL ([a0, a1, a2, a3] ++ kk)) ut0.e) (valH (nmL ([a0, a1, a2, a3] ++ kk)) ut0.h)
  refine Fin.deep (a := [.s K1, .s K3, .s K5]) (deep_seq K6 [] (by kernel_rfl)) ?_
  show Fin (mkX Tryz.prog) (sem (mkX Tryz.prog) 100000 98) 100000 Tryz.f20.results.toList _ [.s K1, .s K3, .s K5, .s K7, .s K8] .n (valE (nmL ([a0, a1, a2, a3] ++ kk)) ut0.e) (valH (nmL ([a0, a1, a2, a3] ++ kk)) ut0.h)
  refine Fin.deep (a := [.s K1, .s K3, .s K5, .s K7]) (deep_seq K8 [] (by kernel_rfl)) ?_
  show Fin (mkX Tryz.prog) (sem (mkX Tryz.prog) 100000 98) 100000 Tryz.f20.results.toList _ [.s K1, .s K3, .s K5, .s K7, .s K9, .s K10] .n (valE (nmL ([a0, a1, a2, a3] ++ kk)) ut0.e) (valH (nmL ([a0, a1, a2, a3] ++ kk)) ut0.h)
  refine Fin.step (a := [.s K1, .s K3, .s K5, .s K7]) (sem_fr 100000 98) (piece_ok (l := [a0, a1, a2, a3]) Bodies.xc Bodies.tabOkO utp1 rfl trivial kk) ?_
  show Fin (mkX Tryz.prog) (sem (mkX Tryz.prog) 100000 98) 100000 Tryz.f20.results.toList _ [.s K9, .s K10] .n (valE (nmL ([a0, a1, a2, a3] ++ kk)) ut1.e) (valH (nmL ([a0, a1, a2, a3] ++ kk)) ut1.h)
  refine Fin.deep (a := [.s K9]) (deep_seq K10 [] (by kernel_rfl)) ?_
  show Fin (mkX Tryz.prog) (sem (mkX Tryz.prog) 100000 98) 100000 Tryz.f20.results.toList _ [.s K9, .s K11, .s K12] .n (valE (nmL ([a0, a1, a2, a3] ++ kk)) ut1.e) (valH (nmL ([a0, a1, a2, a3] ++ kk)) ut1.h)
  refine Fin.step (a := [.s K9]) (sem_fr 100000 98) (piece_ok (l := [a0, a1, a2, a3]) Bodies.xc Bodies.tabOkO utp2 rfl trivial kk) ?_
  show Fin (mkX Tryz.prog) (sem (mkX Tryz.prog) 100000 98) 100000 Tryz.f20.results.toList _ [.s K11, .s K12] .n (valE (nmL ([a0, a1, a2, a3] ++ kk)) ut2.e) (valH (nmL ([a0, a1, a2, a3] ++ kk)) ut2.h)
  refine Fin.deep (a := [.s K11]) (deep_seq K12 [] (by kernel_rfl)) ?_
  show Fin (mkX Tryz.prog) (sem (mkX Tryz.prog) 100000 98) 100000 Tryz.f20.results.toList _ [.s K11, .s K13, .s K14] .n (valE (nmL ([a0, a1, a2, a3] ++ kk)) ut2.e) (valH (nmL ([a0, a1, a2, a3] ++ kk)) ut2.h)
  refine Fin.deep (a := [.s K11]) (deep_seq K13 [.s K14] (by kernel_rfl)) ?_
  show Fin (mkX Tryz.prog) (sem (mkX Tryz.prog) 100000 98) 100000 Tryz.f20.results.toList _ [.s K11, .s K15, .s K16, .s K14] .n (valE (nmL ([a0, a1, a2, a3] ++ kk)) ut2.e) (valH (nmL ([a0, a1, a2, a3] ++ kk)) ut2.h)
  refine Fin.step (a := [.s K11, .s K15]) (sem_fr 100000 98) (piece_ok (l := [a0, a1, a2, a3]) Bodies.xc Bodies.tabOkO utp3 rfl trivial kk) ?_
  show Fin (mkX Tryz.prog) (sem (mkX Tryz.prog) 100000 98) 100000 Tryz.f20.results.toList _ [.s K16, .s K14] .n (valE (nmL ([a0, a1, a2, a3] ++ kk)) ut3.e) (valH (nmL ([a0, a1, a2, a3] ++ kk)) ut3.h)
  refine Fin.block' (n := K16) (by kernel_rfl) ?_
  show Fin (mkX Tryz.prog) (sem (mkX Tryz.prog) 100000 98) 100000 Tryz.f20.results.toList _ [.s K17, .b 0, .s K14] .n (valE (nmL ([a0, a1, a2, a3] ++ kk)) ut3.e) (valH (nmL ([a0, a1, a2, a3] ++ kk)) ut3.h)
  refine Fin.deep (a := []) (deep_loop K17 [.b 0, .s K14] (by kernel_rfl)) ?_
  show Fin (mkX Tryz.prog) (sem (mkX Tryz.prog) 100000 98) 100000 Tryz.f20.results.toList _ [.l K18 100000, .b 0, .s K14] .n (valE (nmL ([a0, a1, a2, a3] ++ kk)) ut3.e) (valH (nmL ([a0, a1, a2, a3] ++ kk)) ut3.h)
  refine Fin.deep (a := []) (deep_round K18 99999 [.b 0, .s K14]) ?_
  show Fin (mkX Tryz.prog) (sem (mkX Tryz.prog) 100000 98) 100000 Tryz.f20.results.toList _ [.s K18, .l K18 99999, .b 0, .s K14] .n (valE (nmL ([a0, a1, a2, a3] ++ kk)) ut3.e) (valH (nmL ([a0, a1, a2, a3] ++ kk)) ut3.h)
  refine Fin.deep (a := []) (deep_seq K18 [.l K18 99999, .b 0, .s K14] (by kernel_rfl)) ?_
  show Fin (mkX Tryz.prog) (sem (mkX Tryz.prog) 100000 98) 100000 Tryz.f20.results.toList _ [.s K19, .s K20, .l K18 99999, .b 0, .s K14] .n (valE (nmL ([a0, a1, a2, a3] ++ kk)) ut3.e) (valH (nmL ([a0, a1, a2, a3] ++ kk)) ut3.h)
  refine Fin.deep (a := [.s K19]) (deep_seq K20 [.l K18 99999, .b 0, .s K14] (by kernel_rfl)) ?_
  show Fin (mkX Tryz.prog) (sem (mkX Tryz.prog) 100000 98) 100000 Tryz.f20.results.toList _ [.s K19, .s K21, .s K22, .l K18 99999, .b 0, .s K14] .n (valE (nmL ([a0, a1, a2, a3] ++ kk)) ut3.e) (valH (nmL ([a0, a1, a2, a3] ++ kk)) ut3.h)
  refine Fin.step (a := [.s K19]) (sem_fr 100000 98) (piece_ok (l := [a0, a1, a2, a3]) Bodies.xc Bodies.tabOkO utp4 rfl trivial kk) ?_
  show Fin (mkX Tryz.prog) (sem (mkX Tryz.prog) 100000 98) 100000 Tryz.f20.results.toList _ [.s K21, .s K22, .l K18 99999, .b 0, .s K14] .n (valE (nmL ([a0, a1, a2, a3] ++ kk)) ut4.e) (valH (nmL ([a0, a1, a2, a3] ++ kk)) ut4.h)
  refine Fin.block' (n := K21) (by kernel_rfl) ?_
  show Fin (mkX Tryz.prog) (sem (mkX Tryz.prog) 100000 98) 100000 Tryz.f20.results.toList _ [.s K23, .b 1, .s K22, .l K18 99999, .b 0, .s K14] .n (valE (nmL ([a0, a1, a2, a3] ++ kk)) ut4.e) (valH (nmL ([a0, a1, a2, a3] ++ kk)) ut4.h)
  refine Fin.deep (a := []) (deep_seq K23 [.b 1, .s K22, .l K18 99999, .b 0, .s K14] (by kernel_rfl)) ?_
  show Fin (mkX Tryz.prog) (sem (mkX Tryz.prog) 100000 98) 100000 Tryz.f20.results.toList _ [.s K24, .s K25, .b 1, .s K22, .l K18 99999, .b 0, .s K14] .n (valE (nmL ([a0, a1, a2, a3] ++ kk)) ut4.e) (valH (nmL ([a0, a1, a2, a3] ++ kk)) ut4.h)
  refine Fin.step (a := [.s K24]) (sem_fr 100000 98) (piece_ok (l := [a0, a1, a2, a3]) Bodies.xc Bodies.tabOkO utp5 rfl trivial kk) ?_
  show Fin (mkX Tryz.prog) (sem (mkX Tryz.prog) 100000 98) 100000 Tryz.f20.results.toList _ [.s K25, .b 1, .s K22, .l K18 99999, .b 0, .s K14] .n (valE (nmL ([a0, a1, a2, a3] ++ kk)) ut5.e) (valH (nmL ([a0, a1, a2, a3] ++ kk)) ut5.h)
  refine Fin.step (a := [.s K25, .b 1, .s K22]) (sem_fr 100000 98) (piece_ok (l := [a0, a1, a2, a3]) Bodies.xc Bodies.tabOkO utp6 rfl trivial kk) ?_
  show Fin (mkX Tryz.prog) (sem (mkX Tryz.prog) 100000 98) 100000 Tryz.f20.results.toList _ [.l K18 99999, .b 0, .s K14] .n (valE (nmL ([a0, a1, a2, a3] ++ kk)) ut6.e) (valH (nmL ([a0, a1, a2, a3] ++ kk)) ut6.h)
  refine Fin.deep (a := []) (deep_round K18 99998 [.b 0, .s K14]) ?_
  show Fin (mkX Tryz.prog) (sem (mkX Tryz.prog) 100000 98) 100000 Tryz.f20.results.toList _ [.s K18, .l K18 99998, .b 0, .s K14] .n (valE (nmL ([a0, a1, a2, a3] ++ kk)) ut6.e) (valH (nmL ([a0, a1, a2, a3] ++ kk)) ut6.h)
  refine Fin.deep (a := []) (deep_seq K18 [.l K18 99998, .b 0, .s K14] (by kernel_rfl)) ?_
  show Fin (mkX Tryz.prog) (sem (mkX Tryz.prog) 100000 98) 100000 Tryz.f20.results.toList _ [.s K26, .s K27, .l K18 99998, .b 0, .s K14] .n (valE (nmL ([a0, a1, a2, a3] ++ kk)) ut6.e) (valH (nmL ([a0, a1, a2, a3] ++ kk)) ut6.h)
  refine Fin.deep (a := [.s K26]) (deep_seq K27 [.l K18 99998, .b 0, .s K14] (by kernel_rfl)) ?_
  show Fin (mkX Tryz.prog) (sem (mkX Tryz.prog) 100000 98) 100000 Tryz.f20.results.toList _ [.s K26, .s K28, .s K29, .l K18 99998, .b 0, .s K14] .n (valE (nmL ([a0, a1, a2, a3] ++ kk)) ut6.e) (valH (nmL ([a0, a1, a2, a3] ++ kk)) ut6.h)
  refine Fin.step (a := [.s K26]) (sem_fr 100000 98) (piece_ok (l := [a0, a1, a2, a3]) Bodies.xc Bodies.tabOkO utp7 rfl trivial kk) ?_
  show Fin (mkX Tryz.prog) (sem (mkX Tryz.prog) 100000 98) 100000 Tryz.f20.results.toList _ [.s K28, .s K29, .l K18 99998, .b 0, .s K14] .n (valE (nmL ([a0, a1, a2, a3] ++ kk)) ut7.e) (valH (nmL ([a0, a1, a2, a3] ++ kk)) ut7.h)
  refine Fin.block' (n := K28) (by kernel_rfl) ?_
  show Fin (mkX Tryz.prog) (sem (mkX Tryz.prog) 100000 98) 100000 Tryz.f20.results.toList _ [.s K30, .b 1, .s K29, .l K18 99998, .b 0, .s K14] .n (valE (nmL ([a0, a1, a2, a3] ++ kk)) ut7.e) (valH (nmL ([a0, a1, a2, a3] ++ kk)) ut7.h)
  refine Fin.deep (a := []) (deep_seq K30 [.b 1, .s K29, .l K18 99998, .b 0, .s K14] (by kernel_rfl)) ?_
  show Fin (mkX Tryz.prog) (sem (mkX Tryz.prog) 100000 98) 100000 Tryz.f20.results.toList _ [.s K31, .s K32, .b 1, .s K29, .l K18 99998, .b 0, .s K14] .n (valE (nmL ([a0, a1, a2, a3] ++ kk)) ut7.e) (valH (nmL ([a0, a1, a2, a3] ++ kk)) ut7.h)
  refine Fin.step (a := [.s K31]) (sem_fr 100000 98) (piece_ok (l := [a0, a1, a2, a3]) Bodies.xc Bodies.tabOkO utp8 rfl trivial kk) ?_
  show Fin (mkX Tryz.prog) (sem (mkX Tryz.prog) 100000 98) 100000 Tryz.f20.results.toList _ [.s K32, .b 1, .s K29, .l K18 99998, .b 0, .s K14] .n (valE (nmL ([a0, a1, a2, a3] ++ kk)) ut8.e) (valH (nmL ([a0, a1, a2, a3] ++ kk)) ut8.h)
  refine Fin.step (a := [.s K32, .b 1, .s K29]) (sem_fr 100000 98) (piece_ok (l := [a0, a1, a2, a3]) Bodies.xc Bodies.tabOkO utp9 rfl trivial kk) ?_
  show Fin (mkX Tryz.prog) (sem (mkX Tryz.prog) 100000 98) 100000 Tryz.f20.results.toList _ [.l K18 99998, .b 0, .s K14] .n (valE (nmL ([a0, a1, a2, a3] ++ kk)) ut9.e) (valH (nmL ([a0, a1, a2, a3] ++ kk)) ut9.h)
  refine Fin.deep (a := []) (deep_round K18 99997 [.b 0, .s K14]) ?_
  show Fin (mkX Tryz.prog) (sem (mkX Tryz.prog) 100000 98) 100000 Tryz.f20.results.toList _ [.s K18, .l K18 99997, .b 0, .s K14] .n (valE (nmL ([a0, a1, a2, a3] ++ kk)) ut9.e) (valH (nmL ([a0, a1, a2, a3] ++ kk)) ut9.h)
  refine Fin.deep (a := []) (deep_seq K18 [.l K18 99997, .b 0, .s K14] (by kernel_rfl)) ?_
  show Fin (mkX Tryz.prog) (sem (mkX Tryz.prog) 100000 98) 100000 Tryz.f20.results.toList _ [.s K33, .s K34, .l K18 99997, .b 0, .s K14] .n (valE (nmL ([a0, a1, a2, a3] ++ kk)) ut9.e) (valH (nmL ([a0, a1, a2, a3] ++ kk)) ut9.h)
  refine Fin.deep (a := [.s K33]) (deep_seq K34 [.l K18 99997, .b 0, .s K14] (by kernel_rfl)) ?_
  show Fin (mkX Tryz.prog) (sem (mkX Tryz.prog) 100000 98) 100000 Tryz.f20.results.toList _ [.s K33, .s K35, .s K36, .l K18 99997, .b 0, .s K14] .n (valE (nmL ([a0, a1, a2, a3] ++ kk)) ut9.e) (valH (nmL ([a0, a1, a2, a3] ++ kk)) ut9.h)
  refine Fin.step (a := [.s K33]) (sem_fr 100000 98) (piece_ok (l := [a0, a1, a2, a3]) Bodies.xc Bodies.tabOkO utp10 rfl trivial kk) ?_
  show Fin (mkX Tryz.prog) (sem (mkX Tryz.prog) 100000 98) 100000 Tryz.f20.results.toList _ [.s K35, .s K36, .l K18 99997, .b 0, .s K14] .n (valE (nmL ([a0, a1, a2, a3] ++ kk)) ut10.e) (valH (nmL ([a0, a1, a2, a3] ++ kk)) ut10.h)
  refine Fin.block' (n := K35) (by kernel_rfl) ?_
  show Fin (mkX Tryz.prog) (sem (mkX Tryz.prog) 100000 98) 100000 Tryz.f20.results.toList _ [.s K37, .b 1, .s K36, .l K18 99997, .b 0, .s K14] .n (valE (nmL ([a0, a1, a2, a3] ++ kk)) ut10.e) (valH (nmL ([a0, a1, a2, a3] ++ kk)) ut10.h)
  refine Fin.deep (a := []) (deep_seq K37 [.b 1, .s K36, .l K18 99997, .b 0, .s K14] (by kernel_rfl)) ?_
  show Fin (mkX Tryz.prog) (sem (mkX Tryz.prog) 100000 98) 100000 Tryz.f20.results.toList _ [.s K38, .s K39, .b 1, .s K36, .l K18 99997, .b 0, .s K14] .n (valE (nmL ([a0, a1, a2, a3] ++ kk)) ut10.e) (valH (nmL ([a0, a1, a2, a3] ++ kk)) ut10.h)
  refine Fin.step (a := [.s K38]) (sem_fr 100000 98) (piece_ok (l := [a0, a1, a2, a3]) Bodies.xc Bodies.tabOkO utp11 rfl trivial kk) ?_
  show Fin (mkX Tryz.prog) (sem (mkX Tryz.prog) 100000 98) 100000 Tryz.f20.results.toList _ [.s K39, .b 1, .s K36, .l K18 99997, .b 0, .s K14] .n (valE (nmL ([a0, a1, a2, a3] ++ kk)) ut11.e) (valH (nmL ([a0, a1, a2, a3] ++ kk)) ut11.h)
  exact Fin.ret (sem_fr 100000 98) (piece_ok (l := [a0, a1, a2, a3]) Bodies.xc Bodies.tabOkO utp12 rfl trivial kk) (Or.inr rfl) (resL_val (ρ := nmL ([a0, a1, a2, a3] ++ kk)) _ utrv) (fun g s => ⟨rfl, s⟩)
theorem aran (a0 a1 a2 a3 : Int) (l0 : (-9223372036854775808 : Int) ≤ a0) (u0 : a0 ≤ (9223372036854775807 : Int)) (l1 : (69 : Int) ≤ a1) (u1 : a1 ≤ (65535 : Int)) (l2 : (0 : Int) ≤ a2) (u2 : a2 ≤ (65535 : Int)) (l3 : (-9223372036854775808 : Int) ≤ a3) (u3 : a3 ≤ (9223372036854775807 : Int)) : ∃ h', sem (mkX Tryz.prog) 100000 100 10 [.i .i64 a0, .i .i64 a1, .i .i64 a2, .i .i64 a3] ⟨16, lay []⟩ = some (.b true, h') := by
  obtain ⟨kk, q', e', h', z1, z2, z3⟩ := end_ok (l := [a0, a1, a2, a3]) Bodies.xc Bodies.tabOkO sape afits (aall a0 a1 a2 a3 l0 u0 l1 u1 l2 u2 l3 u3)
  have F : Fin (mkX Tryz.prog) (sem (mkX Tryz.prog) 100000 99) 100000 Tryz.f10.results.toList (fun v _ => v = .b true) [.s Ca0] .n (valE (nmL ([a0, a1, a2, a3] ++ kk)) sa0.e) (valH (nmL ([a0, a1, a2, a3] ++ kk)) sa0.h) := by
    refine Fin.deep (a := []) (deep_seq Ca0 [] (by kernel_rfl)) ?_
    show Fin (mkX Tryz.prog) (sem (mkX Tryz.prog) 100000 99) 100000 Tryz.f10.results.toList _ [.s Ca1, .s Ca2] .n (valE (nmL ([a0, a1, a2, a3] ++ kk)) sa0.e) (valH (nmL ([a0, a1, a2, a3] ++ kk)) sa0.h)
    refine Fin.step (a := [.s Ca1]) (sem_fr 100000 99) (piece_ok (l := [a0, a1, a2, a3]) Bodies.xc Bodies.tabOkO sap1 rfl trivial kk) ?_
    show Fin (mkX Tryz.prog) (sem (mkX Tryz.prog) 100000 99) 100000 Tryz.f10.results.toList _ [.s Ca2] .n (valE (nmL ([a0, a1, a2, a3] ++ kk)) sa1.e) (valH (nmL ([a0, a1, a2, a3] ++ kk)) sa1.h)
    refine Fin.deep (a := []) (deep_seq Ca2 [] (by kernel_rfl)) ?_
    show Fin (mkX Tryz.prog) (sem (mkX Tryz.prog) 100000 99) 100000 Tryz.f10.results.toList _ [.s Ca3, .s Ca4] .n (valE (nmL ([a0, a1, a2, a3] ++ kk)) sa1.e) (valH (nmL ([a0, a1, a2, a3] ++ kk)) sa1.h)
    refine Fin.deep (a := []) (deep_seq Ca3 [.s Ca4] (by kernel_rfl)) ?_
    show Fin (mkX Tryz.prog) (sem (mkX Tryz.prog) 100000 99) 100000 Tryz.f10.results.toList _ [.s Ca5, .s Ca6, .s Ca4] .n (valE (nmL ([a0, a1, a2, a3] ++ kk)) sa1.e) (valH (nmL ([a0, a1, a2, a3] ++ kk)) sa1.h)
    refine Fin.step (a := [.s Ca5]) (sem_fr 100000 99) (piece_ok (l := [a0, a1, a2, a3]) Bodies.xc Bodies.tabOkO sap2 rfl trivial kk) ?_
    show Fin (mkX Tryz.prog) (sem (mkX Tryz.prog) 100000 99) 100000 Tryz.f10.results.toList _ [.s Ca6, .s Ca4] .n (valE (nmL ([a0, a1, a2, a3] ++ kk)) sa2.e) (valH (nmL ([a0, a1, a2, a3] ++ kk)) sa2.h)
    refine Fin.step (a := [.s Ca6]) (sem_fr 100000 99) (piece_ok (l := [a0, a1, a2, a3]) Bodies.xc Bodies.tabOkO sap3 rfl trivial kk) ?_
    show Fin (mkX Tryz.prog) (sem (mkX Tryz.prog) 100000 99) 100000 Tryz.f10.results.toList _ [.s Ca4] .n (valE (nmL ([a0, a1, a2, a3] ++ kk)) sa3.e) (valH (nmL ([a0, a1, a2, a3] ++ kk)) sa3.h)
    refine Fin.deep (a := []) (deep_seq Ca4 [] (by kernel_rfl)) ?_
    show Fin (mkX Tryz.prog) (sem (mkX Tryz.prog) 100000 99) 100000 Tryz.f10.results.toList _ [.s Ca7, .s Ca8] .n (valE (nmL ([a0, a1, a2, a3] ++ kk)) sa3.e) (valH (nmL ([a0, a1, a2, a3] ++ kk)) sa3.h)
    refine Fin.step (a := [.s Ca7]) (sem_fr 100000 99) (piece_ok (l := [a0, a1, a2, a3]) Bodies.xc Bodies.tabOkO sap4 rfl (sah4 a0 a1 a2 a3 l0 u0 l1 u1 l2 u2 l3 u3) kk) ?_
    show Fin (mkX Tryz.prog) (sem (mkX Tryz.prog) 100000 99) 100000 Tryz.f10.results.toList _ [.s Ca8] .n (valE (nmL ([a0, a1, a2, a3] ++ kk)) sa4.e) (valH (nmL ([a0, a1, a2, a3] ++ kk)) sa4.h)
    refine Fin.deep (a := []) (deep_seq Ca8 [] (by kernel_rfl)) ?_
    show Fin (mkX Tryz.prog) (sem (mkX Tryz.prog) 100000 99) 100000 Tryz.f10.results.toList _ [.s Ca9, .s Ca10] .n (valE (nmL ([a0, a1, a2, a3] ++ kk)) sa4.e) (valH (nmL ([a0, a1, a2, a3] ++ kk)) sa4.h)
    refine Fin.call3 sac5r sac5a sac5b sac5d sac5e sac5f sac5g sac5h sac5i sac5j (call_known (upRan a0 a1 a2 a3 kk) (okU_ok sac5u _).1 (okU_ok sac5u _).2) (sac5v _) ?_
    show Fin (mkX Tryz.prog) (sem (mkX Tryz.prog) 100000 99) 100000 Tryz.f10.results.toList _ [.s Ca10] .n (valE (nmL ([a0, a1, a2, a3] ++ kk)) sa5.e) (valH (nmL ([a0, a1, a2, a3] ++ kk)) sa5.h)
    refine Fin.deep (a := []) (deep_seq Ca10 [] (by kernel_rfl)) ?_
    show Fin (mkX Tryz.prog) (sem (mkX Tryz.prog) 100000 99) 100000 Tryz.f10.results.toList _ [.s Ca11, .s Ca12] .n (valE (nmL ([a0, a1, a2, a3] ++ kk)) sa5.e) (valH (nmL ([a0, a1, a2, a3] ++ kk)) sa5.h)
    refine Fin.step (a := [.s Ca11]) (sem_fr 100000 99) (piece_ok (l := [a0, a1, a2, a3]) Bodies.xc Bodies.tabOkO sap6 rfl trivial kk) ?_
    show Fin (mkX Tryz.prog) (sem (mkX Tryz.prog) 100000 99) 100000 Tryz.f10.results.toList _ [.s Ca12] .n (valE (nmL ([a0, a1, a2, a3] ++ kk)) sa6.e) (valH (nmL ([a0, a1, a2, a3] ++ kk)) sa6.h)
    refine Fin.deep (a := []) (deep_seq Ca12 [] (by kernel_rfl)) ?_
    show Fin (mkX Tryz.prog) (sem (mkX Tryz.prog) 100000 99) 100000 Tryz.f10.results.toList _ [.s Ca13, .s Ca14] .n (valE (nmL ([a0, a1, a2, a3] ++ kk)) sa6.e) (valH (nmL ([a0, a1, a2, a3] ++ kk)) sa6.h)
    exact Go.Am.Fin.last (sem_fr 100000 99) z1 z2 z3 (fun g _ => rfl)
  have := law_of_fin (n := 99) (args := [nameV .i64 0, nameV .i64 1, nameV .i64 2, nameV .i64 3]) (tb := []) (ρ := nmL ([a0, a1, a2, a3] ++ kk)) Tryz.func10 (by rw [lx]; kernel_rfl) (by kernel_rfl) F
  have hv : vals (nmL ([a0, a1, a2, a3] ++ kk)) [nameV .i64 0, nameV .i64 1, nameV .i64 2, nameV .i64 3] = [.i .i64 a0, .i .i64 a1, .i .i64 a2, .i .i64 a3] := by
    simp only [vals, val, val_nameV]
    rfl
  rw [hv] at this
  exact this
theorem bran (a0 a1 a2 a3 : Int) (l0 : (-9223372036854775808 : Int) ≤ a0) (u0 : a0 ≤ (9223372036854775807 : Int)) (l1 : (1 : Int) ≤ a1) (u1 : a1 ≤ (67 : Int)) (l2 : (0 : Int) ≤ a2) (u2 : a2 ≤ (65535 : Int)) (l3 : (-9223372036854775808 : Int) ≤ a3) (u3 : a3 ≤ (9223372036854775807 : Int)) : ∃ h', sem (mkX Tryz.prog) 100000 100 10 [.i .i64 a0, .i .i64 a1, .i .i64 a2, .i .i64 a3] ⟨16, lay []⟩ = some (.b true, h') := by
  obtain ⟨kk, q', e', h', z1, z2, z3⟩ := end_ok (l := [a0, a1, a2, a3]) Bodies.xc Bodies.tabOkO sbpe bfits (ball a0 a1 a2 a3 l0 u0 l1 u1 l2 u2 l3 u3)
  have F : Fin (mkX Tryz.prog) (sem (mkX Tryz.prog) 100000 99) 100000 Tryz.f10.results.toList (fun v _ => v = .b true) [.s Cb0] .n (valE (nmL ([a0, a1, a2, a3] ++ kk)) sb0.e) (valH (nmL ([a0, a1, a2, a3] ++ kk)) sb0.h) := by
    refine Fin.deep (a := []) (deep_seq Cb0 [] (by kernel_rfl)) ?_
    show Fin (mkX Tryz.prog) (sem (mkX Tryz.prog) 100000 99) 100000 Tryz.f10.results.toList _ [.s Cb1, .s Cb2] .n (valE (nmL ([a0, a1, a2, a3] ++ kk)) sb0.e) (valH (nmL ([a0, a1, a2, a3] ++ kk)) sb0.h)
    refine Fin.step (a := [.s Cb1]) (sem_fr 100000 99) (piece_ok (l := [a0, a1, a2, a3]) Bodies.xc Bodies.tabOkO sbp1 rfl trivial kk) ?_
    show Fin (mkX Tryz.prog) (sem (mkX Tryz.prog) 100000 99) 100000 Tryz.f10.results.toList _ [.s Cb2] .n (valE (nmL ([a0, a1, a2, a3] ++ kk)) sb1.e) (valH (nmL ([a0, a1, a2, a3] ++ kk)) sb1.h)
    refine Fin.deep (a := []) (deep_seq Cb2 [] (by kernel_rfl)) ?_
    show Fin (mkX Tryz.prog) (sem (mkX Tryz.prog) 100000 99) 100000 Tryz.f10.results.toList _ [.s Cb3, .s Cb4] .n (valE (nmL ([a0, a1, a2, a3] ++ kk)) sb1.e) (valH (nmL ([a0, a1, a2, a3] ++ kk)) sb1.h)
    refine Fin.deep (a := []) (deep_seq Cb3 [.s Cb4] (by kernel_rfl)) ?_
    show Fin (mkX Tryz.prog) (sem (mkX Tryz.prog) 100000 99) 100000 Tryz.f10.results.toList _ [.s Cb5, .s Cb6, .s Cb4] .n (valE (nmL ([a0, a1, a2, a3] ++ kk)) sb1.e) (valH (nmL ([a0, a1, a2, a3] ++ kk)) sb1.h)
    refine Fin.step (a := [.s Cb5]) (sem_fr 100000 99) (piece_ok (l := [a0, a1, a2, a3]) Bodies.xc Bodies.tabOkO sbp2 rfl trivial kk) ?_
    show Fin (mkX Tryz.prog) (sem (mkX Tryz.prog) 100000 99) 100000 Tryz.f10.results.toList _ [.s Cb6, .s Cb4] .n (valE (nmL ([a0, a1, a2, a3] ++ kk)) sb2.e) (valH (nmL ([a0, a1, a2, a3] ++ kk)) sb2.h)
    refine Fin.step (a := [.s Cb6]) (sem_fr 100000 99) (piece_ok (l := [a0, a1, a2, a3]) Bodies.xc Bodies.tabOkO sbp3 rfl trivial kk) ?_
    show Fin (mkX Tryz.prog) (sem (mkX Tryz.prog) 100000 99) 100000 Tryz.f10.results.toList _ [.s Cb4] .n (valE (nmL ([a0, a1, a2, a3] ++ kk)) sb3.e) (valH (nmL ([a0, a1, a2, a3] ++ kk)) sb3.h)
    refine Fin.deep (a := []) (deep_seq Cb4 [] (by kernel_rfl)) ?_
    show Fin (mkX Tryz.prog) (sem (mkX Tryz.prog) 100000 99) 100000 Tryz.f10.results.toList _ [.s Cb7, .s Cb8] .n (valE (nmL ([a0, a1, a2, a3] ++ kk)) sb3.e) (valH (nmL ([a0, a1, a2, a3] ++ kk)) sb3.h)
    refine Fin.step (a := [.s Cb7]) (sem_fr 100000 99) (piece_ok (l := [a0, a1, a2, a3]) Bodies.xc Bodies.tabOkO sbp4 rfl (sbh4 a0 a1 a2 a3 l0 u0 l1 u1 l2 u2 l3 u3) kk) ?_
    show Fin (mkX Tryz.prog) (sem (mkX Tryz.prog) 100000 99) 100000 Tryz.f10.results.toList _ [.s Cb8] .n (valE (nmL ([a0, a1, a2, a3] ++ kk)) sb4.e) (valH (nmL ([a0, a1, a2, a3] ++ kk)) sb4.h)
    refine Fin.deep (a := []) (deep_seq Cb8 [] (by kernel_rfl)) ?_
    show Fin (mkX Tryz.prog) (sem (mkX Tryz.prog) 100000 99) 100000 Tryz.f10.results.toList _ [.s Cb9, .s Cb10] .n (valE (nmL ([a0, a1, a2, a3] ++ kk)) sb4.e) (valH (nmL ([a0, a1, a2, a3] ++ kk)) sb4.h)
    refine Fin.call3 sbc5r sbc5a sbc5b sbc5d sbc5e sbc5f sbc5g sbc5h sbc5i sbc5j (call_known (upRan a0 a1 a2 a3 kk) (okU_ok sbc5u _).1 (okU_ok sbc5u _).2) (sbc5v _) ?_
    show Fin (mkX Tryz.prog) (sem (mkX Tryz.prog) 100000 99) 100000 Tryz.f10.results.toList _ [.s Cb10] .n (valE (nmL ([a0, a1, a2, a3] ++ kk)) sb5.e) (valH (nmL ([a0, a1, a2, a3] ++ kk)) sb5.h)
    refine Fin.deep (a := []) (deep_seq Cb10 [] (by kernel_rfl)) ?_
    show Fin (mkX Tryz.prog) (sem (mkX Tryz.prog) 100000 99) 100000 Tryz.f10.results.toList _ [.s Cb11, .s Cb12] .n (valE (nmL ([a0, a1, a2, a3] ++ kk)) sb5.e) (valH (nmL ([a0, a1, a2, a3] ++ kk)) sb5.h)
    refine Fin.step (a := [.s Cb11]) (sem_fr 100000 99) (piece_ok (l := [a0, a1, a2, a3]) Bodies.xc Bodies.tabOkO sbp6 rfl trivial kk) ?_
    show Fin (mkX Tryz.prog) (sem (mkX Tryz.prog) 100000 99) 100000 Tryz.f10.results.toList _ [.s Cb12] .n (valE (nmL ([a0, a1, a2, a3] ++ kk)) sb6.e) (valH (nmL ([a0, a1, a2, a3] ++ kk)) sb6.h)
    refine Fin.deep (a := []) (deep_seq Cb12 [] (by kernel_rfl)) ?_
    show Fin (mkX Tryz.prog) (sem (mkX Tryz.prog) 100000 99) 100000 Tryz.f10.results.toList _ [.s Cb13, .s Cb14] .n (valE (nmL ([a0, a1, a2, a3] ++ kk)) sb6.e) (valH (nmL ([a0, a1, a2, a3] ++ kk)) sb6.h)
    exact Go.Am.Fin.last (sem_fr 100000 99) z1 z2 z3 (fun g _ => rfl)
  have := law_of_fin (n := 99) (args := [nameV .i64 0, nameV .i64 1, nameV .i64 2, nameV .i64 3]) (tb := []) (ρ := nmL ([a0, a1, a2, a3] ++ kk)) Tryz.func10 (by rw [lx]; kernel_rfl) (by kernel_rfl) F
  have hv : vals (nmL ([a0, a1, a2, a3] ++ kk)) [nameV .i64 0, nameV .i64 1, nameV .i64 2, nameV .i64 3] = [.i .i64 a0, .i .i64 a1, .i .i64 a2, .i .i64 a3] := by
    simp only [vals, val, val_nameV]
    rfl
  rw [hv] at this
  exact this
theorem oran (a0 a1 a2 a3 : Int) (l0 : (-9223372036854775808 : Int) ≤ a0) (u0 : a0 ≤ (9223372036854775807 : Int)) (l1 : (-9223372036854775808 : Int) ≤ a1) (u1 : a1 ≤ (9223372036854775807 : Int)) (l2 : (-9223372036854775808 : Int) ≤ a2) (u2 : a2 ≤ (9223372036854775807 : Int)) (l3 : (-9223372036854775808 : Int) ≤ a3) (u3 : a3 ≤ (9223372036854775807 : Int)) (x0 : a1 < 1 ∨ 65535 < a1 ∨ a1 = 68 ∨ a2 < 0 ∨ 65535 < a2) : ∃ h', sem (mkX Tryz.prog) 100000 100 10 [.i .i64 a0, .i .i64 a1, .i .i64 a2, .i .i64 a3] ⟨16, lay []⟩ = some (.b true, h') := by
  obtain ⟨kk, q', e', h', z1, z2, z3⟩ := end_ok (l := [a0, a1, a2, a3]) Bodies.xc Bodies.tabOkO sope ofits (oall a0 a1 a2 a3 l0 u0 l1 u1 l2 u2 l3 u3 x0)
  have F : Fin (mkX Tryz.prog) (sem (mkX Tryz.prog) 100000 99) 100000 Tryz.f10.results.toList (fun v _ => v = .b true) [.s Co0] .n (valE (nmL ([a0, a1, a2, a3] ++ kk)) so0.e) (valH (nmL ([a0, a1, a2, a3] ++ kk)) so0.h) := by
    refine Fin.deep (a := []) (deep_seq Co0 [] (by kernel_rfl)) ?_
    show Fin (mkX Tryz.prog) (sem (mkX Tryz.prog) 100000 99) 100000 Tryz.f10.results.toList _ [.s Co1, .s Co2] .n (valE (nmL ([a0, a1, a2, a3] ++ kk)) so0.e) (valH (nmL ([a0, a1, a2, a3] ++ kk)) so0.h)
    refine Fin.step (a := [.s Co1]) (sem_fr 100000 99) (piece_ok (l := [a0, a1, a2, a3]) Bodies.xc Bodies.tabOkO sop1 rfl trivial kk) ?_
    show Fin (mkX Tryz.prog) (sem (mkX Tryz.prog) 100000 99) 100000 Tryz.f10.results.toList _ [.s Co2] .n (valE (nmL ([a0, a1, a2, a3] ++ kk)) so1.e) (valH (nmL ([a0, a1, a2, a3] ++ kk)) so1.h)
    refine Fin.deep (a := []) (deep_seq Co2 [] (by kernel_rfl)) ?_
    show Fin (mkX Tryz.prog) (sem (mkX Tryz.prog) 100000 99) 100000 Tryz.f10.results.toList _ [.s Co3, .s Co4] .n (valE (nmL ([a0, a1, a2, a3] ++ kk)) so1.e) (valH (nmL ([a0, a1, a2, a3] ++ kk)) so1.h)
    refine Fin.deep (a := []) (deep_seq Co3 [.s Co4] (by kernel_rfl)) ?_
    show Fin (mkX Tryz.prog) (sem (mkX Tryz.prog) 100000 99) 100000 Tryz.f10.results.toList _ [.s Co5, .s Co6, .s Co4] .n (valE (nmL ([a0, a1, a2, a3] ++ kk)) so1.e) (valH (nmL ([a0, a1, a2, a3] ++ kk)) so1.h)
    refine Fin.step (a := [.s Co5]) (sem_fr 100000 99) (piece_ok (l := [a0, a1, a2, a3]) Bodies.xc Bodies.tabOkO sop2 rfl trivial kk) ?_
    show Fin (mkX Tryz.prog) (sem (mkX Tryz.prog) 100000 99) 100000 Tryz.f10.results.toList _ [.s Co6, .s Co4] .n (valE (nmL ([a0, a1, a2, a3] ++ kk)) so2.e) (valH (nmL ([a0, a1, a2, a3] ++ kk)) so2.h)
    refine Fin.step (a := [.s Co6]) (sem_fr 100000 99) (piece_ok (l := [a0, a1, a2, a3]) Bodies.xc Bodies.tabOkO sop3 rfl trivial kk) ?_
    show Fin (mkX Tryz.prog) (sem (mkX Tryz.prog) 100000 99) 100000 Tryz.f10.results.toList _ [.s Co4] .n (valE (nmL ([a0, a1, a2, a3] ++ kk)) so3.e) (valH (nmL ([a0, a1, a2, a3] ++ kk)) so3.h)
    refine Fin.deep (a := []) (deep_seq Co4 [] (by kernel_rfl)) ?_
    show Fin (mkX Tryz.prog) (sem (mkX Tryz.prog) 100000 99) 100000 Tryz.f10.results.toList _ [.s Co7, .s Co8] .n (valE (nmL ([a0, a1, a2, a3] ++ kk)) so3.e) (valH (nmL ([a0, a1, a2, a3] ++ kk)) so3.h)
    refine Fin.deep (a := []) (deep_seq Co7 [.s Co8] (by kernel_rfl)) ?_
    show Fin (mkX Tryz.prog) (sem (mkX Tryz.prog) 100000 99) 100000 Tryz.f10.results.toList _ [.s Co9, .s Co10, .s Co8] .n (valE (nmL ([a0, a1, a2, a3] ++ kk)) so3.e) (valH (nmL ([a0, a1, a2, a3] ++ kk)) so3.h)
    exact Go.Am.Fin.last (sem_fr 100000 99) z1 z2 z3 (fun g _ => rfl)
  have := law_of_fin (n := 99) (args := [nameV .i64 0, nameV .i64 1, nameV .i64 2, nameV .i64 3]) (tb := []) (ρ := nmL ([a0, a1, a2, a3] ++ kk)) Tryz.func10 (by rw [lx]; kernel_rfl) (by kernel_rfl) F
  have hv : vals (nmL ([a0, a1, a2, a3] ++ kk)) [nameV .i64 0, nameV .i64 1, nameV .i64 2, nameV .i64 3] = [.i .i64 a0, .i .i64 a1, .i .i64 a2, .i .i64 a3] := by
    simp only [vals, val, val_nameV]
    rfl
  rw [hv] at this
  exact this
end Go.Proofs.YtcebbmappnbegaaGreatDoor.gateShut
