/- GateArps: its run, out of its pieces. -/
import Derived.Test.YtcebbmappnbegaaGreatDoorGateArpsR0
import Derived.Test.YtcebbmappnbegaaGreatDoorGateArpsR1
import Derived.Test.YtcebbmappnbegaaGreatDoorGateArpsR2
import Derived.Test.YtcebbmappnbegaaGreatDoorGateArpsR3
import Derived.Test.YtcebbmappnbegaaGreatDoorGateArpsR4
import Derived.Test.YtcebbmappnbegaaGreatDoorGateArpsR5
import Derived.Test.YtcebbmappnbegaaGreatDoorGateArpsR6
import Derived.Test.YtcebbmappnbegaaGreatDoorGateArpsR7
import Derived.Test.YtcebbmappnbegaaGreatDoorGateArpsR8
import Derived.Test.YtcebbmappnbegaaGreatDoorGateArpsR9
import Derived.Test.YtcebbmappnbegaaGreatDoorGateArpsR10
import Derived.Test.YtcebbmappnbegaaGreatDoorGateArpsR11
import Derived.Test.YtcebbmappnbegaaGreatDoorGateArpsR12
import Derived.Test.YtcebbmappnbegaaGreatDoorGateArpsR13
import Derived.Test.YtcebbmappnbegaaGreatDoorGateArpsR14
import Derived.Test.YtcebbmappnbegaaGreatDoorGateArpsR15
import Derived.Test.YtcebbmappnbegaaGreatDoorYtceLx
set_option linter.unusedSimpArgs false
set_option linter.unusedVariables false
set_option linter.unusedSectionVars false
set_option linter.unnecessarySimpa false
set_option maxRecDepth 100000
namespace Go.Proofs.YtcebbmappnbegaaGreatDoor.gateArps
open Go.Am Go.Proofs.YtcebbmappnbegaaGreatDoor.Facts
theorem upRan (a0 a1 a2 a3 a4 a5 a6 a7 a8 a9 : Int) (kk : List Int) : ∃ h', sem (mkX Tryz.prog) 100000 99 20 [] ⟨411, .l⟩ = some ((.p 598 0), h') ∧ Sub (valH (nmL ([a0, a1, a2, a3, a4, a5, a6, a7, a8, a9] ++ kk)) ut12.h) h' := by
  refine call_of_fin (n := 98) (ρ := nmL ([a0, a1, a2, a3, a4, a5, a6, a7, a8, a9] ++ kk)) Tryz.func20 (by rw [lx]; kernel_rfl) (by kernel_rfl) ?_
  show Fin (mkX Tryz.prog) (sem (mkX Tryz.prog) 100000 98) 100000 Tryz.f20.results.toList _ [.s K0] .n (valE (nmL ([a0, a1, a2, a3, a4, a5, a6, a7, a8, a9] ++ kk)) ut0.e) (valH (nmL ([a0, a1, a2, a3, a4, a5, a6, a7, a8, a9] ++ kk)) ut0.h)
  refine Fin.deep (a := []) (deep_seq K0 [] (by kernel_rfl)) ?_
  show Fin (mkX Tryz.prog) (sem (mkX Tryz.prog) 100000 98) 100000 Tryz.f20.results.toList _ [.s K1, .s K2] .n (valE (nmL ([a0, a1, a2, a3, a4, a5, a6, a7, a8, a9] ++ kk)) ut0.e) (valH (nmL ([a0, a1, a2, a3, a4, a5, a6, a7, a8, a9] ++ kk)) ut0.h)
  refine Fin.deep (a := [.s K1]) (deep_seq K2 [] (by kernel_rfl)) ?_
  show Fin (mkX Tryz.prog) (sem (mkX Tryz.prog) 100000 98) 100000 Tryz.f20.results.toList _ [.s K1, .s K3, .s K4] .n (valE (nmL ([a0, a1, a2, a3, a4, a5, a6, a7, a8, a9] ++ kk)) ut0.e) (valH (nmL ([a0, a1, a2, a3, a4, a5, a6, a7, a8, a9] ++ kk)) ut0.h)
  refine Fin.deep (a := [.s K1, .s K3]) (deep_seq K4 [] (by kernel_rfl)) ?_
  show Fin (mkX Tryz.prog) (sem (mkX Tryz.prog) 100000 98) 100000 Tryz.f20.results.toList _ [.s K1, .s K3, .s K5, .s K6] .n (valE (nmL ([a0, a1, a2, a3, a4, a5, a6, a7, a8, a9] ++ kk)) ut0.e) (valH (nmL ([a0, a1, a2, a3, a4, a5, a6, a7, a8, a9] ++ kk)) ut0.h)
  refine Fin.deep (a := [.s K1, .s K3, .s K5]) (deep_seq K6 [] (by kernel_rfl)) ?_
  show Fin (mkX Tryz.prog) (sem (mkX Tryz.prog) 100000 98) 100000 Tryz.f20.results.toList _ [.s K1, .s K3, .s K5, .s K7, .s K8] .n (valE (nmL ([a0, a1, a2, a3, a4, a5, a6, a7, a8, a9] ++ kk)) ut0.e) (valH (nmL ([a0, a1, a2, a3, a4, a5, a6, a7, a8, a9] ++ kk)) ut0.h)
  refine Fin.deep (a := [.s K1, .s K3, .s K5, .s K7]) (deep_seq K8 [] (by kernel_rfl)) ?_
  show Fin (mkX Tryz.prog) (sem (mkX Tryz.prog) 100000 98) 100000 Tryz.f20.results.toList _ [.s K1, .s K3, .s K5, .s K7, .s K9, .s K10] .n (valE (nmL ([a0, a1, a2, a3, a4, a5, a6, a7, a8, a9] ++ kk)) ut0.e) (valH (nmL ([a0, a1, a2, a3, a4, a5, a6, a7, a8, a9] ++ kk)) ut0.h)
  refine Fin.step (a := [.s K1, .s K3, .s K5, .s K7]) (sem_fr 100000 98) (piece_ok (l := [a0, a1, a2, a3, a4, a5, a6, a7, a8, a9]) Bodies.xc Bodies.tabOkO utp1 rfl trivial kk) ?_
  show Fin (mkX Tryz.prog) (sem (mkX Tryz.prog) 100000 98) 100000 Tryz.f20.results.toList _ [.s K9, .s K10] .n (valE (nmL ([a0, a1, a2, a3, a4, a5, a6, a7, a8, a9] ++ kk)) ut1.e) (valH (nmL ([a0, a1, a2, a3, a4, a5, a6, a7, a8, a9] ++ kk)) ut1.h)
  refine Fin.deep (a := [.s K9]) (deep_seq K10 [] (by kernel_rfl)) ?_
  show Fin (mkX Tryz.prog) (sem (mkX Tryz.prog) 100000 98) 100000 Tryz.f20.results.toList _ [.s K9, .s K11, .s K12] .n (valE (nmL ([a0, a1, a2, a3, a4, a5, a6, a7, a8, a9] ++ kk)) ut1.e) (valH (nmL ([a0, a1, a2, a3, a4, a5, a6, a7, a8, a9] ++ kk)) ut1.h)
  refine Fin.step (a := [.s K9]) (sem_fr 100000 98) (piece_ok (l := [a0, a1, a2, a3, a4, a5, a6, a7, a8, a9]) Bodies.xc Bodies.tabOkO utp2 rfl trivial kk) ?_
  show Fin (mkX Tryz.prog) (sem (mkX Tryz.prog) 100000 98) 100000 Tryz.f20.results.toList _ [.s K11, .s K12] .n (valE (nmL ([a0, a1, a2, a3, a4, a5, a6, a7, a8, a9] ++ kk)) ut2.e) (valH (nmL ([a0, a1, a2, a3, a4, a5, a6, a7, a8, a9] ++ kk)) ut2.h)
  refine Fin.deep (a := [.s K11]) (deep_seq K12 [] (by kernel_rfl)) ?_
  show Fin (mkX Tryz.prog) (sem (mkX Tryz.prog) 100000 98) 100000 Tryz.f20.results.toList _ [.s K11, .s K13, .s K14] .n (valE (nmL ([a0, a1, a2, a3, a4, a5, a6, a7, a8, a9] ++ kk)) ut2.e) (valH (nmL ([a0, a1, a2, a3, a4, a5, a6, a7, a8, a9] ++ kk)) ut2.h)
  refine Fin.deep (a := [.s K11]) (deep_seq K13 [.s K14] (by kernel_rfl)) ?_
  show Fin (mkX Tryz.prog) (sem (mkX Tryz.prog) 100000 98) 100000 Tryz.f20.results.toList _ [.s K11, .s K15, .s K16, .s K14] .n (valE (nmL ([a0, a1, a2, a3, a4, a5, a6, a7, a8, a9] ++ kk)) ut2.e) (valH (nmL ([a0, a1, a2, a3, a4, a5, a6, a7, a8, a9] ++ kk)) ut2.h)
  refine Fin.step (a := [.s K11, .s K15]) (sem_fr 100000 98) (piece_ok (l := [a0, a1, a2, a3, a4, a5, a6, a7, a8, a9]) Bodies.xc Bodies.tabOkO utp3 rfl trivial kk) ?_
  show Fin (mkX Tryz.prog) (sem (mkX Tryz.prog) 100000 98) 100000 Tryz.f20.results.toList _ [.s K16, .s K14] .n (valE (nmL ([a0, a1, a2, a3, a4, a5, a6, a7, a8, a9] ++ kk)) ut3.e) (valH (nmL ([a0, a1, a2, a3, a4, a5, a6, a7, a8, a9] ++ kk)) ut3.h)
  refine Fin.block' (n := K16) (by kernel_rfl) ?_
  show Fin (mkX Tryz.prog) (sem (mkX Tryz.prog) 100000 98) 100000 Tryz.f20.results.toList _ [.s K17, .b 0, .s K14] .n (valE (nmL ([a0, a1, a2, a3, a4, a5, a6, a7, a8, a9] ++ kk)) ut3.e) (valH (nmL ([a0, a1, a2, a3, a4, a5, a6, a7, a8, a9] ++ kk)) ut3.h)
  refine Fin.deep (a := []) (deep_loop K17 [.b 0, .s K14] (by kernel_rfl)) ?_
  show Fin (mkX Tryz.prog) (sem (mkX Tryz.prog) 100000 98) 100000 Tryz.f20.results.toList _ [.l K18 100000, .b 0, .s K14] .n (valE (nmL ([a0, a1, a2, a3, a4, a5, a6, a7, a8, a9] ++ kk)) ut3.e) (valH (nmL ([a0, a1, a2, a3, a4, a5, a6, a7, a8, a9] ++ kk)) ut3.h)
  refine Fin.deep (a := []) (deep_round K18 99999 [.b 0, .s K14]) ?_
  show Fin (mkX Tryz.prog) (sem (mkX Tryz.prog) 100000 98) 100000 Tryz.f20.results.toList _ [.s K18, .l K18 99999, .b 0, .s K14] .n (valE (nmL ([a0, a1, a2, a3, a4, a5, a6, a7, a8, a9] ++ kk)) ut3.e) (valH (nmL ([a0, a1, a2, a3, a4, a5, a6, a7, a8, a9] ++ kk)) ut3.h)
  refine Fin.deep (a := []) (deep_seq K18 [.l K18 99999, .b 0, .s K14] (by kernel_rfl)) ?_
  show Fin (mkX Tryz.prog) (sem (mkX Tryz.prog) 100000 98) 100000 Tryz.f20.results.toList _ [.s K19, .s K20, .l K18 99999, .b 0, .s K14] .n (valE (nmL ([a0, a1, a2, a3, a4, a5, a6, a7, a8, a9] ++ kk)) ut3.e) (valH (nmL ([a0, a1, a2, a3, a4, a5, a6, a7, a8, a9] ++ kk)) ut3.h)
  refine Fin.deep (a := [.s K19]) (deep_seq K20 [.l K18 99999, .b 0, .s K14] (by kernel_rfl)) ?_
  show Fin (mkX Tryz.prog) (sem (mkX Tryz.prog) 100000 98) 100000 Tryz.f20.results.toList _ [.s K19, .s K21, .s K22, .l K18 99999, .b 0, .s K14] .n (valE (nmL ([a0, a1, a2, a3, a4, a5, a6, a7, a8, a9] ++ kk)) ut3.e) (valH (nmL ([a0, a1, a2, a3, a4, a5, a6, a7, a8, a9] ++ kk)) ut3.h)
  refine Fin.step (a := [.s K19]) (sem_fr 100000 98) (piece_ok (l := [a0, a1, a2, a3, a4, a5, a6, a7, a8, a9]) Bodies.xc Bodies.tabOkO utp4 rfl trivial kk) ?_
  show Fin (mkX Tryz.prog) (sem (mkX Tryz.prog) 100000 98) 100000 Tryz.f20.results.toList _ [.s K21, .s K22, .l K18 99999, .b 0, .s K14] .n (valE (nmL ([a0, a1, a2, a3, a4, a5, a6, a7, a8, a9] ++ kk)) ut4.e) (valH (nmL ([a0, a1, a2, a3, a4, a5, a6, a7, a8, a9] ++ kk)) ut4.h)
  refine Fin.block' (n := K21) (by kernel_rfl) ?_
  show Fin (mkX Tryz.prog) (sem (mkX Tryz.prog) 100000 98) 100000 Tryz.f20.results.toList _ [.s K23, .b 1, .s K22, .l K18 99999, .b 0, .s K14] .n (valE (nmL ([a0, a1, a2, a3, a4, a5, a6, a7, a8, a9] ++ kk)) ut4.e) (valH (nmL ([a0, a1, a2, a3, a4, a5, a6, a7, a8, a9] ++ kk)) ut4.h)
  refine Fin.deep (a := []) (deep_seq K23 [.b 1, .s K22, .l K18 99999, .b 0, .s K14] (by kernel_rfl)) ?_
  show Fin (mkX Tryz.prog) (sem (mkX Tryz.prog) 100000 98) 100000 Tryz.f20.results.toList _ [.s K24, .s K25, .b 1, .s K22, .l K18 99999, .b 0, .s K14] .n (valE (nmL ([a0, a1, a2, a3, a4, a5, a6, a7, a8, a9] ++ kk)) ut4.e) (valH (nmL ([a0, a1, a2, a3, a4, a5, a6, a7, a8, a9] ++ kk)) ut4.h)
  refine Fin.step (a := [.s K24]) (sem_fr 100000 98) (piece_ok (l := [a0, a1, a2, a3, a4, a5, a6, a7, a8, a9]) Bodies.xc Bodies.tabOkO utp5 rfl trivial kk) ?_
  show Fin (mkX Tryz.prog) (sem (mkX Tryz.prog) 100000 98) 100000 Tryz.f20.results.toList _ [.s K25, .b 1, .s K22, .l K18 99999, .b 0, .s K14] .n (valE (nmL ([a0, a1, a2, a3, a4, a5, a6, a7, a8, a9] ++ kk)) ut5.e) (valH (nmL ([a0, a1, a2, a3, a4, a5, a6, a7, a8, a9] ++ kk)) ut5.h)
  refine Fin.step (a := [.s K25, .b 1, .s K22]) (sem_fr 100000 98) (piece_ok (l := [a0, a1, a2, a3, a4, a5, a6, a7, a8, a9]) Bodies.xc Bodies.tabOkO utp6 rfl trivial kk) ?_
  show Fin (mkX Tryz.prog) (sem (mkX Tryz.prog) 100000 98) 100000 Tryz.f20.results.toList _ [.l K18 99999, .b 0, .s K14] .n (valE (nmL ([a0, a1, a2, a3, a4, a5, a6, a7, a8, a9] ++ kk)) ut6.e) (valH (nmL ([a0, a1, a2, a3, a4, a5, a6, a7, a8, a9] ++ kk)) ut6.h)
  refine Fin.deep (a := []) (deep_round K18 99998 [.b 0, .s K14]) ?_
  show Fin (mkX Tryz.prog) (sem (mkX Tryz.prog) 100000 98) 100000 Tryz.f20.results.toList _ [.s K18, .l K18 99998, .b 0, .s K14] .n (valE (nmL ([a0, a1, a2, a3, a4, a5, a6, a7, a8, a9] ++ kk)) ut6.e) (valH (nmL ([a0, a1, a2, a3, a4, a5, a6, a7, a8, a9] ++ kk)) ut6.h)
  refine Fin.deep (a := []) (deep_seq K18 [.l K18 99998, .b 0, .s K14] (by kernel_rfl)) ?_
  show Fin (mkX Tryz.prog) (sem (mkX Tryz.prog) 100000 98) 100000 Tryz.f20.results.toList _ [.s K26, .s K27, .l K18 99998, .b 0, .s K14] .n (valE (nmL ([a0, a1, a2, a3, a4, a5, a6, a7, a8, a9] ++ kk)) ut6.e) (valH (nmL ([a0, a1, a2, a3, a4, a5, a6, a7, a8, a9] ++ kk)) ut6.h)
  refine Fin.deep (a := [.s K26]) (deep_seq K27 [.l K18 99998, .b 0, .s K14] (by kernel_rfl)) ?_
  show Fin (mkX Tryz.prog) (sem (mkX Tryz.prog) 100000 98) 100000 Tryz.f20.results.toList _ [.s K26, .s K28, .s K29, .l K18 99998, .b 0, .s K14] .n (valE (nmL ([a0, a1, a2, a3, a4, a5, a6, a7, a8, a9] ++ kk)) ut6.e) (valH (nmL ([a0, a1, a2, a3, a4, a5, a6, a7, a8, a9] ++ kk)) ut6.h)
  refine Fin.step (a := [.s K26]) (sem_fr 100000 98) (piece_ok (l := [a0, a1, a2, a3, a4, a5, a6, a7, a8, a9]) Bodies.xc Bodies.tabOkO utp7 rfl trivial kk) ?_
  show Fin (mkX Tryz.prog) (sem (mkX Tryz.prog) 100000 98) 100000 Tryz.f20.results.toList _ [.s K28, .s K29, .l K18 99998, .b 0, .s K14] .n (valE (nmL ([a0, a1, a2, a3, a4, a5, a6, a7, a8, a9] ++ kk)) ut7.e) (valH (nmL ([a0, a1, a2, a3, a4, a5, a6, a7, a8, a9] ++ kk)) ut7.h)
  refine Fin.block' (n := K28) (by kernel_rfl) ?_
  show Fin (mkX Tryz.prog) (sem (mkX Tryz.prog) 100000 98) 100000 Tryz.f20.results.toList _ [.s K30, .b 1, .s K29, .l K18 99998, .b 0, .s K14] .n (valE (nmL ([a0, a1, a2, a3, a4, a5, a6, a7, a8, a9] ++ kk)) ut7.e) (valH (nmL ([a0, a1, a2, a3, a4, a5, a6, a7, a8, a9] ++ kk)) ut7.h)
  refine Fin.deep (a := []) (deep_seq K30 [.b 1, .s K29, .l K18 99998, .b 0, .s K14] (by kernel_rfl)) ?_
  show Fin (mkX Tryz.prog) (sem (mkX Tryz.prog) 100000 98) 100000 Tryz.f20.results.toList _ [.s K31, .s K32, .b 1, .s K29, .l K18 99998, .b 0, .s K14] .n (valE (nmL ([a0, a1, a2, a3, a4, a5, a6, a7, a8, a9] ++ kk)) ut7.e) (valH (nmL ([a0, a1, a2, a3, a4, a5, a6, a7, a8, a9] ++ kk)) ut7.h)
  refine Fin.step (a := [.s K31]) (sem_fr 100000 98) (piece_ok (l := [a0, a1, a2, a3, a4, a5, a6, a7, a8, a9]) Bodies.xc Bodies.tabOkO utp8 rfl trivial kk) ?_
  show Fin (mkX Tryz.prog) (sem (mkX Tryz.prog) 100000 98) 100000 Tryz.f20.results.toList _ [.s K32, .b 1, .s K29, .l K18 99998, .b 0, .s K14] .n (valE (nmL ([a0, a1, a2, a3, a4, a5, a6, a7, a8, a9] ++ kk)) ut8.e) (valH (nmL ([a0, a1, a2, a3, a4, a5, a6, a7, a8, a9] ++ kk)) ut8.h)
  refine Fin.step (a := [.s K32, .b 1, .s K29]) (sem_fr 100000 98) (piece_ok (l := [a0, a1, a2, a3, a4, a5, a6, a7, a8, a9]) Bodies.xc Bodies.tabOkO utp9 rfl trivial kk) ?_
  show Fin (mkX Tryz.prog) (sem (mkX Tryz.prog) 100000 98) 100000 Tryz.f20.results.toList _ [.l K18 99998, .b 0, .s K14] .n (valE (nmL ([a0, a1, a2, a3, a4, a5, a6, a7, a8, a9] ++ kk)) ut9.e) (valH (nmL ([a0, a1, a2, a3, a4, a5, a6, a7, a8, a9] ++ kk)) ut9.h)
  refine Fin.deep (a := []) (deep_round K18 99997 [.b 0, .s K14]) ?_
  show Fin (mkX Tryz.prog) (sem (mkX Tryz.prog) 100000 98) 100000 Tryz.f20.results.toList _ [.s K18, .l K18 99997, .b 0, .s K14] .n (valE (nmL ([a0, a1, a2, a3, a4, a5, a6, a7, a8, a9] ++ kk)) ut9.e) (valH (nmL ([a0, a1, a2, a3, a4, a5, a6, a7, a8, a9] ++ kk)) ut9.h)
  refine Fin.deep (a := []) (deep_seq K18 [.l K18 99997, .b 0, .s K14] (by kernel_rfl)) ?_
  show Fin (mkX Tryz.prog) (sem (mkX Tryz.prog) 100000 98) 100000 Tryz.f20.results.toList _ [.s K33, .s K34, .l K18 99997, .b 0, .s K14] .n (valE (nmL ([a0, a1, a2, a3, a4, a5, a6, a7, a8, a9] ++ kk)) ut9.e) (valH (nmL ([a0, a1, a2, a3, a4, a5, a6, a7, a8, a9] ++ kk)) ut9.h)
  refine Fin.deep (a := [.s K33]) (deep_seq K34 [.l K18 99997, .b 0, .s K14] (by kernel_rfl)) ?_
  show Fin (mkX Tryz.prog) (sem (mkX Tryz.prog) 100000 98) 100000 Tryz.f20.results.toList _ [.s K33, .s K35, .s K36, .l K18 99997, .b 0, .s K14] .n (valE (nmL ([a0, a1, a2, a3, a4, a5, a6, a7, a8, a9] ++ kk)) ut9.e) (valH (nmL ([a0, a1, a2, a3, a4, a5, a6, a7, a8, a9] ++ kk)) ut9.h)
  refine Fin.step (a := [.s K33]) (sem_fr 100000 98) (piece_ok (l := [a0, a1, a2, a3, a4, a5, a6, a7, a8, a9]) Bodies.xc Bodies.tabOkO utp10 rfl trivial kk) ?_
  show Fin (mkX Tryz.prog) (sem (mkX Tryz.prog) 100000 98) 100000 Tryz.f20.results.toList _ [.s K35, .s K36, .l K18 99997, .b 0, .s K14] .n (valE (nmL ([a0, a1, a2, a3, a4, a5, a6, a7, a8, a9] ++ kk)) ut10.e) (valH (nmL ([a0, a1, a2, a3, a4, a5, a6, a7, a8, a9] ++ kk)) ut10.h)
  refine Fin.block' (n := K35) (by kernel_rfl) ?_
  show Fin (mkX Tryz.prog) (sem (mkX Tryz.prog) 100000 98) 100000 Tryz.f20.results.toList _ [.s K37, .b 1, .s K36, .l K18 99997, .b 0, .s K14] .n (valE (nmL ([a0, a1, a2, a3, a4, a5, a6, a7, a8, a9] ++ kk)) ut10.e) (valH (nmL ([a0, a1, a2, a3, a4, a5, a6, a7, a8, a9] ++ kk)) ut10.h)
  refine Fin.deep (a := []) (deep_seq K37 [.b 1, .s K36, .l K18 99997, .b 0, .s K14] (by kernel_rfl)) ?_
  show Fin (mkX Tryz.prog) (sem (mkX Tryz.prog) 100000 98) 100000 Tryz.f20.results.toList _ [.s K38, .s K39, .b 1, .s K36, .l K18 99997, .b 0, .s K14] .n (valE (nmL ([a0, a1, a2, a3, a4, a5, a6, a7, a8, a9] ++ kk)) ut10.e) (valH (nmL ([a0, a1, a2, a3, a4, a5, a6, a7, a8, a9] ++ kk)) ut10.h)
  refine Fin.step (a := [.s K38]) (sem_fr 100000 98) (piece_ok (l := [a0, a1, a2, a3, a4, a5, a6, a7, a8, a9]) Bodies.xc Bodies.tabOkO utp11 rfl trivial kk) ?_
  show Fin (mkX Tryz.prog) (sem (mkX Tryz.prog) 100000 98) 100000 Tryz.f20.results.toList _ [.s K39, .b 1, .s K36, .l K18 99997, .b 0, .s K14] .n (valE (nmL ([a0, a1, a2, a3, a4, a5, a6, a7, a8, a9] ++ kk)) ut11.e) (valH (nmL ([a0, a1, a2, a3, a4, a5, a6, a7, a8, a9] ++ kk)) ut11.h)
  exact Fin.ret (sem_fr 100000 98) (piece_ok (l := [a0, a1, a2, a3, a4, a5, a6, a7, a8, a9]) Bodies.xc Bodies.tabOkO utp12 rfl trivial kk) (Or.inr rfl) (resL_val (ρ := nmL ([a0, a1, a2, a3, a4, a5, a6, a7, a8, a9] ++ kk)) _ utrv) (fun g s => ⟨rfl, s⟩)
theorem k0ran (a0 a1 a2 a3 a4 a5 a6 a7 a8 a9 : Int) (l0 : (0 : Int) ≤ a0) (u0 : a0 ≤ (255 : Int)) (l1 : (0 : Int) ≤ a1) (u1 : a1 ≤ (255 : Int)) (l2 : (0 : Int) ≤ a2) (u2 : a2 ≤ (255 : Int)) (l3 : (0 : Int) ≤ a3) (u3 : a3 ≤ (255 : Int)) (l4 : (0 : Int) ≤ a4) (u4 : a4 ≤ (255 : Int)) (l5 : (0 : Int) ≤ a5) (u5 : a5 ≤ (255 : Int)) (l6 : (0 : Int) ≤ a6) (u6 : a6 ≤ (255 : Int)) (l7 : (0 : Int) ≤ a7) (u7 : a7 ≤ (255 : Int)) (l8 : (0 : Int) ≤ a8) (u8 : a8 ≤ (255 : Int)) (l9 : (0 : Int) ≤ a9) (u9 : a9 ≤ (255 : Int)) : ∃ h', sem (mkX Tryz.prog) 100000 100 8 [.i .i64 0, .a [.i .u8 a0, .i .u8 a1, .i .u8 a2, .i .u8 a3], .a [.i .u8 a4, .i .u8 a5, .i .u8 a6, .i .u8 a7, .i .u8 a8, .i .u8 a9]] ⟨16, lay []⟩ = some (.b true, h') := by
  obtain ⟨kk, q', e', h', z1, z2, z3⟩ := end_ok (l := [a0, a1, a2, a3, a4, a5, a6, a7, a8, a9]) Bodies.xc Bodies.tabOkO sk0pe k0fits (k0all a0 a1 a2 a3 a4 a5 a6 a7 a8 a9 l0 u0 l1 u1 l2 u2 l3 u3 l4 u4 l5 u5 l6 u6 l7 u7 l8 u8 l9 u9)
  have F : Fin (mkX Tryz.prog) (sem (mkX Tryz.prog) 100000 99) 100000 Tryz.f8.results.toList (fun v _ => v = .b true) [.s Ck00] .n (valE (nmL ([a0, a1, a2, a3, a4, a5, a6, a7, a8, a9] ++ kk)) sk00.e) (valH (nmL ([a0, a1, a2, a3, a4, a5, a6, a7, a8, a9] ++ kk)) sk00.h) := by
    refine Fin.deep (a := []) (deep_seq Ck00 [] (by kernel_rfl)) ?_
    show Fin (mkX Tryz.prog) (sem (mkX Tryz.prog) 100000 99) 100000 Tryz.f8.results.toList _ [.s Ck01, .s Ck02] .n (valE (nmL ([a0, a1, a2, a3, a4, a5, a6, a7, a8, a9] ++ kk)) sk00.e) (valH (nmL ([a0, a1, a2, a3, a4, a5, a6, a7, a8, a9] ++ kk)) sk00.h)
    refine Fin.step (a := [.s Ck01]) (sem_fr 100000 99) (piece_ok (l := [a0, a1, a2, a3, a4, a5, a6, a7, a8, a9]) Bodies.xc Bodies.tabOkO sk0p1 rfl trivial kk) ?_
    show Fin (mkX Tryz.prog) (sem (mkX Tryz.prog) 100000 99) 100000 Tryz.f8.results.toList _ [.s Ck02] .n (valE (nmL ([a0, a1, a2, a3, a4, a5, a6, a7, a8, a9] ++ kk)) sk01.e) (valH (nmL ([a0, a1, a2, a3, a4, a5, a6, a7, a8, a9] ++ kk)) sk01.h)
    refine Fin.deep (a := []) (deep_seq Ck02 [] (by kernel_rfl)) ?_
    show Fin (mkX Tryz.prog) (sem (mkX Tryz.prog) 100000 99) 100000 Tryz.f8.results.toList _ [.s Ck03, .s Ck04] .n (valE (nmL ([a0, a1, a2, a3, a4, a5, a6, a7, a8, a9] ++ kk)) sk01.e) (valH (nmL ([a0, a1, a2, a3, a4, a5, a6, a7, a8, a9] ++ kk)) sk01.h)
    refine Fin.deep (a := []) (deep_seq Ck03 [.s Ck04] (by kernel_rfl)) ?_
    show Fin (mkX Tryz.prog) (sem (mkX Tryz.prog) 100000 99) 100000 Tryz.f8.results.toList _ [.s Ck05, .s Ck06, .s Ck04] .n (valE (nmL ([a0, a1, a2, a3, a4, a5, a6, a7, a8, a9] ++ kk)) sk01.e) (valH (nmL ([a0, a1, a2, a3, a4, a5, a6, a7, a8, a9] ++ kk)) sk01.h)
    refine Fin.step (a := [.s Ck05]) (sem_fr 100000 99) (piece_ok (l := [a0, a1, a2, a3, a4, a5, a6, a7, a8, a9]) Bodies.xc Bodies.tabOkO sk0p2 rfl trivial kk) ?_
    show Fin (mkX Tryz.prog) (sem (mkX Tryz.prog) 100000 99) 100000 Tryz.f8.results.toList _ [.s Ck06, .s Ck04] .n (valE (nmL ([a0, a1, a2, a3, a4, a5, a6, a7, a8, a9] ++ kk)) sk02.e) (valH (nmL ([a0, a1, a2, a3, a4, a5, a6, a7, a8, a9] ++ kk)) sk02.h)
    refine Fin.step (a := [.s Ck06]) (sem_fr 100000 99) (piece_ok (l := [a0, a1, a2, a3, a4, a5, a6, a7, a8, a9]) Bodies.xc Bodies.tabOkO sk0p3 rfl trivial kk) ?_
    show Fin (mkX Tryz.prog) (sem (mkX Tryz.prog) 100000 99) 100000 Tryz.f8.results.toList _ [.s Ck04] .n (valE (nmL ([a0, a1, a2, a3, a4, a5, a6, a7, a8, a9] ++ kk)) sk03.e) (valH (nmL ([a0, a1, a2, a3, a4, a5, a6, a7, a8, a9] ++ kk)) sk03.h)
    refine Fin.deep (a := []) (deep_seq Ck04 [] (by kernel_rfl)) ?_
    show Fin (mkX Tryz.prog) (sem (mkX Tryz.prog) 100000 99) 100000 Tryz.f8.results.toList _ [.s Ck07, .s Ck08] .n (valE (nmL ([a0, a1, a2, a3, a4, a5, a6, a7, a8, a9] ++ kk)) sk03.e) (valH (nmL ([a0, a1, a2, a3, a4, a5, a6, a7, a8, a9] ++ kk)) sk03.h)
    refine Fin.step (a := [.s Ck07]) (sem_fr 100000 99) (piece_ok (l := [a0, a1, a2, a3, a4, a5, a6, a7, a8, a9]) Bodies.xc Bodies.tabOkO sk0p4 rfl trivial kk) ?_
    show Fin (mkX Tryz.prog) (sem (mkX Tryz.prog) 100000 99) 100000 Tryz.f8.results.toList _ [.s Ck08] .n (valE (nmL ([a0, a1, a2, a3, a4, a5, a6, a7, a8, a9] ++ kk)) sk04.e) (valH (nmL ([a0, a1, a2, a3, a4, a5, a6, a7, a8, a9] ++ kk)) sk04.h)
    refine Fin.deep (a := []) (deep_seq Ck08 [] (by kernel_rfl)) ?_
    show Fin (mkX Tryz.prog) (sem (mkX Tryz.prog) 100000 99) 100000 Tryz.f8.results.toList _ [.s Ck09, .s Ck010] .n (valE (nmL ([a0, a1, a2, a3, a4, a5, a6, a7, a8, a9] ++ kk)) sk04.e) (valH (nmL ([a0, a1, a2, a3, a4, a5, a6, a7, a8, a9] ++ kk)) sk04.h)
    refine Fin.call3 sk0c5r sk0c5a sk0c5b sk0c5d sk0c5e sk0c5f sk0c5g sk0c5h sk0c5i sk0c5j (call_known (upRan a0 a1 a2 a3 a4 a5 a6 a7 a8 a9 kk) (okU_ok sk0c5u _).1 (okU_ok sk0c5u _).2) (sk0c5v _) ?_
    show Fin (mkX Tryz.prog) (sem (mkX Tryz.prog) 100000 99) 100000 Tryz.f8.results.toList _ [.s Ck010] .n (valE (nmL ([a0, a1, a2, a3, a4, a5, a6, a7, a8, a9] ++ kk)) sk05.e) (valH (nmL ([a0, a1, a2, a3, a4, a5, a6, a7, a8, a9] ++ kk)) sk05.h)
    refine Fin.deep (a := []) (deep_seq Ck010 [] (by kernel_rfl)) ?_
    show Fin (mkX Tryz.prog) (sem (mkX Tryz.prog) 100000 99) 100000 Tryz.f8.results.toList _ [.s Ck011, .s Ck012] .n (valE (nmL ([a0, a1, a2, a3, a4, a5, a6, a7, a8, a9] ++ kk)) sk05.e) (valH (nmL ([a0, a1, a2, a3, a4, a5, a6, a7, a8, a9] ++ kk)) sk05.h)
    refine Fin.step (a := [.s Ck011]) (sem_fr 100000 99) (piece_ok (l := [a0, a1, a2, a3, a4, a5, a6, a7, a8, a9]) Bodies.xc Bodies.tabOkO sk0p6 rfl trivial kk) ?_
    show Fin (mkX Tryz.prog) (sem (mkX Tryz.prog) 100000 99) 100000 Tryz.f8.results.toList _ [.s Ck012] .n (valE (nmL ([a0, a1, a2, a3, a4, a5, a6, a7, a8, a9] ++ kk)) sk06.e) (valH (nmL ([a0, a1, a2, a3, a4, a5, a6, a7, a8, a9] ++ kk)) sk06.h)
    refine Fin.deep (a := []) (deep_seq Ck012 [] (by kernel_rfl)) ?_
    show Fin (mkX Tryz.prog) (sem (mkX Tryz.prog) 100000 99) 100000 Tryz.f8.results.toList _ [.s Ck013, .s Ck014] .n (valE (nmL ([a0, a1, a2, a3, a4, a5, a6, a7, a8, a9] ++ kk)) sk06.e) (valH (nmL ([a0, a1, a2, a3, a4, a5, a6, a7, a8, a9] ++ kk)) sk06.h)
    refine Fin.step (a := [.s Ck013]) (sem_fr 100000 99) (piece_ok (l := [a0, a1, a2, a3, a4, a5, a6, a7, a8, a9]) Bodies.xc Bodies.tabOkO sk0p7 rfl trivial kk) ?_
    show Fin (mkX Tryz.prog) (sem (mkX Tryz.prog) 100000 99) 100000 Tryz.f8.results.toList _ [.s Ck014] .n (valE (nmL ([a0, a1, a2, a3, a4, a5, a6, a7, a8, a9] ++ kk)) sk07.e) (valH (nmL ([a0, a1, a2, a3, a4, a5, a6, a7, a8, a9] ++ kk)) sk07.h)
    refine Fin.deep (a := []) (deep_seq Ck014 [] (by kernel_rfl)) ?_
    show Fin (mkX Tryz.prog) (sem (mkX Tryz.prog) 100000 99) 100000 Tryz.f8.results.toList _ [.s Ck015, .s Ck016] .n (valE (nmL ([a0, a1, a2, a3, a4, a5, a6, a7, a8, a9] ++ kk)) sk07.e) (valH (nmL ([a0, a1, a2, a3, a4, a5, a6, a7, a8, a9] ++ kk)) sk07.h)
    refine Fin.step (a := [.s Ck015]) (sem_fr 100000 99) (piece_ok (l := [a0, a1, a2, a3, a4, a5, a6, a7, a8, a9]) Bodies.xc Bodies.tabOkO sk0p8 rfl trivial kk) ?_
    show Fin (mkX Tryz.prog) (sem (mkX Tryz.prog) 100000 99) 100000 Tryz.f8.results.toList _ [.s Ck016] .n (valE (nmL ([a0, a1, a2, a3, a4, a5, a6, a7, a8, a9] ++ kk)) sk08.e) (valH (nmL ([a0, a1, a2, a3, a4, a5, a6, a7, a8, a9] ++ kk)) sk08.h)
    refine Fin.deep (a := []) (deep_seq Ck016 [] (by kernel_rfl)) ?_
    show Fin (mkX Tryz.prog) (sem (mkX Tryz.prog) 100000 99) 100000 Tryz.f8.results.toList _ [.s Ck017, .s Ck018] .n (valE (nmL ([a0, a1, a2, a3, a4, a5, a6, a7, a8, a9] ++ kk)) sk08.e) (valH (nmL ([a0, a1, a2, a3, a4, a5, a6, a7, a8, a9] ++ kk)) sk08.h)
    refine Fin.step (a := [.s Ck017]) (sem_fr 100000 99) (piece_ok (l := [a0, a1, a2, a3, a4, a5, a6, a7, a8, a9]) Bodies.xc Bodies.tabOkO sk0p9 rfl trivial kk) ?_
    show Fin (mkX Tryz.prog) (sem (mkX Tryz.prog) 100000 99) 100000 Tryz.f8.results.toList _ [.s Ck018] .n (valE (nmL ([a0, a1, a2, a3, a4, a5, a6, a7, a8, a9] ++ kk)) sk09.e) (valH (nmL ([a0, a1, a2, a3, a4, a5, a6, a7, a8, a9] ++ kk)) sk09.h)
    refine Fin.deep (a := []) (deep_seq Ck018 [] (by kernel_rfl)) ?_
    show Fin (mkX Tryz.prog) (sem (mkX Tryz.prog) 100000 99) 100000 Tryz.f8.results.toList _ [.s Ck019, .s Ck020] .n (valE (nmL ([a0, a1, a2, a3, a4, a5, a6, a7, a8, a9] ++ kk)) sk09.e) (valH (nmL ([a0, a1, a2, a3, a4, a5, a6, a7, a8, a9] ++ kk)) sk09.h)
    refine Fin.step (a := [.s Ck019]) (sem_fr 100000 99) (piece_ok (l := [a0, a1, a2, a3, a4, a5, a6, a7, a8, a9]) Bodies.xc Bodies.tabOkO sk0p10 rfl trivial kk) ?_
    show Fin (mkX Tryz.prog) (sem (mkX Tryz.prog) 100000 99) 100000 Tryz.f8.results.toList _ [.s Ck020] .n (valE (nmL ([a0, a1, a2, a3, a4, a5, a6, a7, a8, a9] ++ kk)) sk010.e) (valH (nmL ([a0, a1, a2, a3, a4, a5, a6, a7, a8, a9] ++ kk)) sk010.h)
    refine Fin.deep (a := []) (deep_seq Ck020 [] (by kernel_rfl)) ?_
    show Fin (mkX Tryz.prog) (sem (mkX Tryz.prog) 100000 99) 100000 Tryz.f8.results.toList _ [.s Ck021, .s Ck022] .n (valE (nmL ([a0, a1, a2, a3, a4, a5, a6, a7, a8, a9] ++ kk)) sk010.e) (valH (nmL ([a0, a1, a2, a3, a4, a5, a6, a7, a8, a9] ++ kk)) sk010.h)
    exact Go.Am.Fin.last (sem_fr 100000 99) z1 z2 z3 (fun g _ => rfl)
  have := law_of_fin (n := 99) (args := [.i .i64 (.ofNat 0), .a [nameV .u8 0, nameV .u8 1, nameV .u8 2, nameV .u8 3], .a [nameV .u8 4, nameV .u8 5, nameV .u8 6, nameV .u8 7, nameV .u8 8, nameV .u8 9]]) (tb := []) (ρ := nmL ([a0, a1, a2, a3, a4, a5, a6, a7, a8, a9] ++ kk)) Tryz.func8 (by rw [lx]; kernel_rfl) (by kernel_rfl) F
  have hv : vals (nmL ([a0, a1, a2, a3, a4, a5, a6, a7, a8, a9] ++ kk)) [.i .i64 (.ofNat 0), .a [nameV .u8 0, nameV .u8 1, nameV .u8 2, nameV .u8 3], .a [nameV .u8 4, nameV .u8 5, nameV .u8 6, nameV .u8 7, nameV .u8 8, nameV .u8 9]] = [.i .i64 0, .a [.i .u8 a0, .i .u8 a1, .i .u8 a2, .i .u8 a3], .a [.i .u8 a4, .i .u8 a5, .i .u8 a6, .i .u8 a7, .i .u8 a8, .i .u8 a9]] := by
    simp only [vals, val, val_nameV]
    rfl
  rw [hv] at this
  exact this
theorem k1ran (a0 a1 a2 a3 a4 a5 a6 a7 a8 a9 : Int) (l0 : (0 : Int) ≤ a0) (u0 : a0 ≤ (255 : Int)) (l1 : (0 : Int) ≤ a1) (u1 : a1 ≤ (255 : Int)) (l2 : (0 : Int) ≤ a2) (u2 : a2 ≤ (255 : Int)) (l3 : (0 : Int) ≤ a3) (u3 : a3 ≤ (255 : Int)) (l4 : (0 : Int) ≤ a4) (u4 : a4 ≤ (255 : Int)) (l5 : (0 : Int) ≤ a5) (u5 : a5 ≤ (255 : Int)) (l6 : (0 : Int) ≤ a6) (u6 : a6 ≤ (255 : Int)) (l7 : (0 : Int) ≤ a7) (u7 : a7 ≤ (255 : Int)) (l8 : (0 : Int) ≤ a8) (u8 : a8 ≤ (255 : Int)) (l9 : (0 : Int) ≤ a9) (u9 : a9 ≤ (255 : Int)) : ∃ h', sem (mkX Tryz.prog) 100000 100 8 [.i .i64 1, .a [.i .u8 a0, .i .u8 a1, .i .u8 a2, .i .u8 a3], .a [.i .u8 a4, .i .u8 a5, .i .u8 a6, .i .u8 a7, .i .u8 a8, .i .u8 a9]] ⟨16, lay []⟩ = some (.b true, h') := by
  obtain ⟨kk, q', e', h', z1, z2, z3⟩ := end_ok (l := [a0, a1, a2, a3, a4, a5, a6, a7, a8, a9]) Bodies.xc Bodies.tabOkO sk1pe k1fits (k1all a0 a1 a2 a3 a4 a5 a6 a7 a8 a9 l0 u0 l1 u1 l2 u2 l3 u3 l4 u4 l5 u5 l6 u6 l7 u7 l8 u8 l9 u9)
  have F : Fin (mkX Tryz.prog) (sem (mkX Tryz.prog) 100000 99) 100000 Tryz.f8.results.toList (fun v _ => v = .b true) [.s Ck10] .n (valE (nmL ([a0, a1, a2, a3, a4, a5, a6, a7, a8, a9] ++ kk)) sk10.e) (valH (nmL ([a0, a1, a2, a3, a4, a5, a6, a7, a8, a9] ++ kk)) sk10.h) := by
    refine Fin.deep (a := []) (deep_seq Ck10 [] (by kernel_rfl)) ?_
    show Fin (mkX Tryz.prog) (sem (mkX Tryz.prog) 100000 99) 100000 Tryz.f8.results.toList _ [.s Ck11, .s Ck12] .n (valE (nmL ([a0, a1, a2, a3, a4, a5, a6, a7, a8, a9] ++ kk)) sk10.e) (valH (nmL ([a0, a1, a2, a3, a4, a5, a6, a7, a8, a9] ++ kk)) sk10.h)
    refine Fin.step (a := [.s Ck11]) (sem_fr 100000 99) (piece_ok (l := [a0, a1, a2, a3, a4, a5, a6, a7, a8, a9]) Bodies.xc Bodies.tabOkO sk1p1 rfl trivial kk) ?_
    show Fin (mkX Tryz.prog) (sem (mkX Tryz.prog) 100000 99) 100000 Tryz.f8.results.toList _ [.s Ck12] .n (valE (nmL ([a0, a1, a2, a3, a4, a5, a6, a7, a8, a9] ++ kk)) sk11.e) (valH (nmL ([a0, a1, a2, a3, a4, a5, a6, a7, a8, a9] ++ kk)) sk11.h)
    refine Fin.deep (a := []) (deep_seq Ck12 [] (by kernel_rfl)) ?_
    show Fin (mkX Tryz.prog) (sem (mkX Tryz.prog) 100000 99) 100000 Tryz.f8.results.toList _ [.s Ck13, .s Ck14] .n (valE (nmL ([a0, a1, a2, a3, a4, a5, a6, a7, a8, a9] ++ kk)) sk11.e) (valH (nmL ([a0, a1, a2, a3, a4, a5, a6, a7, a8, a9] ++ kk)) sk11.h)
    refine Fin.deep (a := []) (deep_seq Ck13 [.s Ck14] (by kernel_rfl)) ?_
    show Fin (mkX Tryz.prog) (sem (mkX Tryz.prog) 100000 99) 100000 Tryz.f8.results.toList _ [.s Ck15, .s Ck16, .s Ck14] .n (valE (nmL ([a0, a1, a2, a3, a4, a5, a6, a7, a8, a9] ++ kk)) sk11.e) (valH (nmL ([a0, a1, a2, a3, a4, a5, a6, a7, a8, a9] ++ kk)) sk11.h)
    refine Fin.step (a := [.s Ck15]) (sem_fr 100000 99) (piece_ok (l := [a0, a1, a2, a3, a4, a5, a6, a7, a8, a9]) Bodies.xc Bodies.tabOkO sk1p2 rfl trivial kk) ?_
    show Fin (mkX Tryz.prog) (sem (mkX Tryz.prog) 100000 99) 100000 Tryz.f8.results.toList _ [.s Ck16, .s Ck14] .n (valE (nmL ([a0, a1, a2, a3, a4, a5, a6, a7, a8, a9] ++ kk)) sk12.e) (valH (nmL ([a0, a1, a2, a3, a4, a5, a6, a7, a8, a9] ++ kk)) sk12.h)
    refine Fin.step (a := [.s Ck16]) (sem_fr 100000 99) (piece_ok (l := [a0, a1, a2, a3, a4, a5, a6, a7, a8, a9]) Bodies.xc Bodies.tabOkO sk1p3 rfl trivial kk) ?_
    show Fin (mkX Tryz.prog) (sem (mkX Tryz.prog) 100000 99) 100000 Tryz.f8.results.toList _ [.s Ck14] .n (valE (nmL ([a0, a1, a2, a3, a4, a5, a6, a7, a8, a9] ++ kk)) sk13.e) (valH (nmL ([a0, a1, a2, a3, a4, a5, a6, a7, a8, a9] ++ kk)) sk13.h)
    refine Fin.deep (a := []) (deep_seq Ck14 [] (by kernel_rfl)) ?_
    show Fin (mkX Tryz.prog) (sem (mkX Tryz.prog) 100000 99) 100000 Tryz.f8.results.toList _ [.s Ck17, .s Ck18] .n (valE (nmL ([a0, a1, a2, a3, a4, a5, a6, a7, a8, a9] ++ kk)) sk13.e) (valH (nmL ([a0, a1, a2, a3, a4, a5, a6, a7, a8, a9] ++ kk)) sk13.h)
    refine Fin.step (a := [.s Ck17]) (sem_fr 100000 99) (piece_ok (l := [a0, a1, a2, a3, a4, a5, a6, a7, a8, a9]) Bodies.xc Bodies.tabOkO sk1p4 rfl trivial kk) ?_
    show Fin (mkX Tryz.prog) (sem (mkX Tryz.prog) 100000 99) 100000 Tryz.f8.results.toList _ [.s Ck18] .n (valE (nmL ([a0, a1, a2, a3, a4, a5, a6, a7, a8, a9] ++ kk)) sk14.e) (valH (nmL ([a0, a1, a2, a3, a4, a5, a6, a7, a8, a9] ++ kk)) sk14.h)
    refine Fin.deep (a := []) (deep_seq Ck18 [] (by kernel_rfl)) ?_
    show Fin (mkX Tryz.prog) (sem (mkX Tryz.prog) 100000 99) 100000 Tryz.f8.results.toList _ [.s Ck19, .s Ck110] .n (valE (nmL ([a0, a1, a2, a3, a4, a5, a6, a7, a8, a9] ++ kk)) sk14.e) (valH (nmL ([a0, a1, a2, a3, a4, a5, a6, a7, a8, a9] ++ kk)) sk14.h)
    refine Fin.call3 sk1c5r sk1c5a sk1c5b sk1c5d sk1c5e sk1c5f sk1c5g sk1c5h sk1c5i sk1c5j (call_known (upRan a0 a1 a2 a3 a4 a5 a6 a7 a8 a9 kk) (okU_ok sk1c5u _).1 (okU_ok sk1c5u _).2) (sk1c5v _) ?_
    show Fin (mkX Tryz.prog) (sem (mkX Tryz.prog) 100000 99) 100000 Tryz.f8.results.toList _ [.s Ck110] .n (valE (nmL ([a0, a1, a2, a3, a4, a5, a6, a7, a8, a9] ++ kk)) sk15.e) (valH (nmL ([a0, a1, a2, a3, a4, a5, a6, a7, a8, a9] ++ kk)) sk15.h)
    refine Fin.deep (a := []) (deep_seq Ck110 [] (by kernel_rfl)) ?_
    show Fin (mkX Tryz.prog) (sem (mkX Tryz.prog) 100000 99) 100000 Tryz.f8.results.toList _ [.s Ck111, .s Ck112] .n (valE (nmL ([a0, a1, a2, a3, a4, a5, a6, a7, a8, a9] ++ kk)) sk15.e) (valH (nmL ([a0, a1, a2, a3, a4, a5, a6, a7, a8, a9] ++ kk)) sk15.h)
    refine Fin.step (a := [.s Ck111]) (sem_fr 100000 99) (piece_ok (l := [a0, a1, a2, a3, a4, a5, a6, a7, a8, a9]) Bodies.xc Bodies.tabOkO sk1p6 rfl trivial kk) ?_
    show Fin (mkX Tryz.prog) (sem (mkX Tryz.prog) 100000 99) 100000 Tryz.f8.results.toList _ [.s Ck112] .n (valE (nmL ([a0, a1, a2, a3, a4, a5, a6, a7, a8, a9] ++ kk)) sk16.e) (valH (nmL ([a0, a1, a2, a3, a4, a5, a6, a7, a8, a9] ++ kk)) sk16.h)
    refine Fin.deep (a := []) (deep_seq Ck112 [] (by kernel_rfl)) ?_
    show Fin (mkX Tryz.prog) (sem (mkX Tryz.prog) 100000 99) 100000 Tryz.f8.results.toList _ [.s Ck113, .s Ck114] .n (valE (nmL ([a0, a1, a2, a3, a4, a5, a6, a7, a8, a9] ++ kk)) sk16.e) (valH (nmL ([a0, a1, a2, a3, a4, a5, a6, a7, a8, a9] ++ kk)) sk16.h)
    refine Fin.step (a := [.s Ck113]) (sem_fr 100000 99) (piece_ok (l := [a0, a1, a2, a3, a4, a5, a6, a7, a8, a9]) Bodies.xc Bodies.tabOkO sk1p7 rfl trivial kk) ?_
    show Fin (mkX Tryz.prog) (sem (mkX Tryz.prog) 100000 99) 100000 Tryz.f8.results.toList _ [.s Ck114] .n (valE (nmL ([a0, a1, a2, a3, a4, a5, a6, a7, a8, a9] ++ kk)) sk17.e) (valH (nmL ([a0, a1, a2, a3, a4, a5, a6, a7, a8, a9] ++ kk)) sk17.h)
    refine Fin.deep (a := []) (deep_seq Ck114 [] (by kernel_rfl)) ?_
    show Fin (mkX Tryz.prog) (sem (mkX Tryz.prog) 100000 99) 100000 Tryz.f8.results.toList _ [.s Ck115, .s Ck116] .n (valE (nmL ([a0, a1, a2, a3, a4, a5, a6, a7, a8, a9] ++ kk)) sk17.e) (valH (nmL ([a0, a1, a2, a3, a4, a5, a6, a7, a8, a9] ++ kk)) sk17.h)
    refine Fin.step (a := [.s Ck115]) (sem_fr 100000 99) (piece_ok (l := [a0, a1, a2, a3, a4, a5, a6, a7, a8, a9]) Bodies.xc Bodies.tabOkO sk1p8 rfl trivial kk) ?_
    show Fin (mkX Tryz.prog) (sem (mkX Tryz.prog) 100000 99) 100000 Tryz.f8.results.toList _ [.s Ck116] .n (valE (nmL ([a0, a1, a2, a3, a4, a5, a6, a7, a8, a9] ++ kk)) sk18.e) (valH (nmL ([a0, a1, a2, a3, a4, a5, a6, a7, a8, a9] ++ kk)) sk18.h)
    refine Fin.deep (a := []) (deep_seq Ck116 [] (by kernel_rfl)) ?_
    show Fin (mkX Tryz.prog) (sem (mkX Tryz.prog) 100000 99) 100000 Tryz.f8.results.toList _ [.s Ck117, .s Ck118] .n (valE (nmL ([a0, a1, a2, a3, a4, a5, a6, a7, a8, a9] ++ kk)) sk18.e) (valH (nmL ([a0, a1, a2, a3, a4, a5, a6, a7, a8, a9] ++ kk)) sk18.h)
    refine Fin.step (a := [.s Ck117]) (sem_fr 100000 99) (piece_ok (l := [a0, a1, a2, a3, a4, a5, a6, a7, a8, a9]) Bodies.xc Bodies.tabOkO sk1p9 rfl trivial kk) ?_
    show Fin (mkX Tryz.prog) (sem (mkX Tryz.prog) 100000 99) 100000 Tryz.f8.results.toList _ [.s Ck118] .n (valE (nmL ([a0, a1, a2, a3, a4, a5, a6, a7, a8, a9] ++ kk)) sk19.e) (valH (nmL ([a0, a1, a2, a3, a4, a5, a6, a7, a8, a9] ++ kk)) sk19.h)
    refine Fin.deep (a := []) (deep_seq Ck118 [] (by kernel_rfl)) ?_
    show Fin (mkX Tryz.prog) (sem (mkX Tryz.prog) 100000 99) 100000 Tryz.f8.results.toList _ [.s Ck119, .s Ck120] .n (valE (nmL ([a0, a1, a2, a3, a4, a5, a6, a7, a8, a9] ++ kk)) sk19.e) (valH (nmL ([a0, a1, a2, a3, a4, a5, a6, a7, a8, a9] ++ kk)) sk19.h)
    refine Fin.step (a := [.s Ck119]) (sem_fr 100000 99) (piece_ok (l := [a0, a1, a2, a3, a4, a5, a6, a7, a8, a9]) Bodies.xc Bodies.tabOkO sk1p10 rfl trivial kk) ?_
    show Fin (mkX Tryz.prog) (sem (mkX Tryz.prog) 100000 99) 100000 Tryz.f8.results.toList _ [.s Ck120] .n (valE (nmL ([a0, a1, a2, a3, a4, a5, a6, a7, a8, a9] ++ kk)) sk110.e) (valH (nmL ([a0, a1, a2, a3, a4, a5, a6, a7, a8, a9] ++ kk)) sk110.h)
    refine Fin.deep (a := []) (deep_seq Ck120 [] (by kernel_rfl)) ?_
    show Fin (mkX Tryz.prog) (sem (mkX Tryz.prog) 100000 99) 100000 Tryz.f8.results.toList _ [.s Ck121, .s Ck122] .n (valE (nmL ([a0, a1, a2, a3, a4, a5, a6, a7, a8, a9] ++ kk)) sk110.e) (valH (nmL ([a0, a1, a2, a3, a4, a5, a6, a7, a8, a9] ++ kk)) sk110.h)
    exact Go.Am.Fin.last (sem_fr 100000 99) z1 z2 z3 (fun g _ => rfl)
  have := law_of_fin (n := 99) (args := [.i .i64 (.ofNat 1), .a [nameV .u8 0, nameV .u8 1, nameV .u8 2, nameV .u8 3], .a [nameV .u8 4, nameV .u8 5, nameV .u8 6, nameV .u8 7, nameV .u8 8, nameV .u8 9]]) (tb := []) (ρ := nmL ([a0, a1, a2, a3, a4, a5, a6, a7, a8, a9] ++ kk)) Tryz.func8 (by rw [lx]; kernel_rfl) (by kernel_rfl) F
  have hv : vals (nmL ([a0, a1, a2, a3, a4, a5, a6, a7, a8, a9] ++ kk)) [.i .i64 (.ofNat 1), .a [nameV .u8 0, nameV .u8 1, nameV .u8 2, nameV .u8 3], .a [nameV .u8 4, nameV .u8 5, nameV .u8 6, nameV .u8 7, nameV .u8 8, nameV .u8 9]] = [.i .i64 1, .a [.i .u8 a0, .i .u8 a1, .i .u8 a2, .i .u8 a3], .a [.i .u8 a4, .i .u8 a5, .i .u8 a6, .i .u8 a7, .i .u8 a8, .i .u8 a9]] := by
    simp only [vals, val, val_nameV]
    rfl
  rw [hv] at this
  exact this
theorem oran (a0 a1 a2 a3 a4 a5 a6 a7 a8 a9 a10 : Int) (l0 : (-9223372036854775808 : Int) ≤ a0) (u0 : a0 ≤ (9223372036854775807 : Int)) (l1 : (0 : Int) ≤ a1) (u1 : a1 ≤ (255 : Int)) (l2 : (0 : Int) ≤ a2) (u2 : a2 ≤ (255 : Int)) (l3 : (0 : Int) ≤ a3) (u3 : a3 ≤ (255 : Int)) (l4 : (0 : Int) ≤ a4) (u4 : a4 ≤ (255 : Int)) (l5 : (0 : Int) ≤ a5) (u5 : a5 ≤ (255 : Int)) (l6 : (0 : Int) ≤ a6) (u6 : a6 ≤ (255 : Int)) (l7 : (0 : Int) ≤ a7) (u7 : a7 ≤ (255 : Int)) (l8 : (0 : Int) ≤ a8) (u8 : a8 ≤ (255 : Int)) (l9 : (0 : Int) ≤ a9) (u9 : a9 ≤ (255 : Int)) (l10 : (0 : Int) ≤ a10) (u10 : a10 ≤ (255 : Int)) (x0 : a0 < 0 ∨ 1 < a0) : ∃ h', sem (mkX Tryz.prog) 100000 100 8 [.i .i64 a0, .a [.i .u8 a1, .i .u8 a2, .i .u8 a3, .i .u8 a4], .a [.i .u8 a5, .i .u8 a6, .i .u8 a7, .i .u8 a8, .i .u8 a9, .i .u8 a10]] ⟨16, lay []⟩ = some (.b true, h') := by
  obtain ⟨kk, q', e', h', z1, z2, z3⟩ := end_ok (l := [a0, a1, a2, a3, a4, a5, a6, a7, a8, a9, a10]) Bodies.xc Bodies.tabOkO sope ofits (oall a0 a1 a2 a3 a4 a5 a6 a7 a8 a9 a10 l0 u0 l1 u1 l2 u2 l3 u3 l4 u4 l5 u5 l6 u6 l7 u7 l8 u8 l9 u9 l10 u10 x0)
  have F : Fin (mkX Tryz.prog) (sem (mkX Tryz.prog) 100000 99) 100000 Tryz.f8.results.toList (fun v _ => v = .b true) [.s Co0] .n (valE (nmL ([a0, a1, a2, a3, a4, a5, a6, a7, a8, a9, a10] ++ kk)) so0.e) (valH (nmL ([a0, a1, a2, a3, a4, a5, a6, a7, a8, a9, a10] ++ kk)) so0.h) := by
    refine Fin.deep (a := []) (deep_seq Co0 [] (by kernel_rfl)) ?_
    show Fin (mkX Tryz.prog) (sem (mkX Tryz.prog) 100000 99) 100000 Tryz.f8.results.toList _ [.s Co1, .s Co2] .n (valE (nmL ([a0, a1, a2, a3, a4, a5, a6, a7, a8, a9, a10] ++ kk)) so0.e) (valH (nmL ([a0, a1, a2, a3, a4, a5, a6, a7, a8, a9, a10] ++ kk)) so0.h)
    refine Fin.deep (a := [.s Co1]) (deep_seq Co2 [] (by kernel_rfl)) ?_
    show Fin (mkX Tryz.prog) (sem (mkX Tryz.prog) 100000 99) 100000 Tryz.f8.results.toList _ [.s Co1, .s Co3, .s Co4] .n (valE (nmL ([a0, a1, a2, a3, a4, a5, a6, a7, a8, a9, a10] ++ kk)) so0.e) (valH (nmL ([a0, a1, a2, a3, a4, a5, a6, a7, a8, a9, a10] ++ kk)) so0.h)
    refine Fin.deep (a := [.s Co1]) (deep_seq Co3 [.s Co4] (by kernel_rfl)) ?_
    show Fin (mkX Tryz.prog) (sem (mkX Tryz.prog) 100000 99) 100000 Tryz.f8.results.toList _ [.s Co1, .s Co5, .s Co6, .s Co4] .n (valE (nmL ([a0, a1, a2, a3, a4, a5, a6, a7, a8, a9, a10] ++ kk)) so0.e) (valH (nmL ([a0, a1, a2, a3, a4, a5, a6, a7, a8, a9, a10] ++ kk)) so0.h)
    refine Fin.step (a := [.s Co1]) (sem_fr 100000 99) (piece_ok (l := [a0, a1, a2, a3, a4, a5, a6, a7, a8, a9, a10]) Bodies.xc Bodies.tabOkO sop1 rfl trivial kk) ?_
    show Fin (mkX Tryz.prog) (sem (mkX Tryz.prog) 100000 99) 100000 Tryz.f8.results.toList _ [.s Co5, .s Co6, .s Co4] .n (valE (nmL ([a0, a1, a2, a3, a4, a5, a6, a7, a8, a9, a10] ++ kk)) so1.e) (valH (nmL ([a0, a1, a2, a3, a4, a5, a6, a7, a8, a9, a10] ++ kk)) so1.h)
    refine Fin.step (a := [.s Co5]) (sem_fr 100000 99) (piece_ok (l := [a0, a1, a2, a3, a4, a5, a6, a7, a8, a9, a10]) Bodies.xc Bodies.tabOkO sop2 rfl trivial kk) ?_
    show Fin (mkX Tryz.prog) (sem (mkX Tryz.prog) 100000 99) 100000 Tryz.f8.results.toList _ [.s Co6, .s Co4] .n (valE (nmL ([a0, a1, a2, a3, a4, a5, a6, a7, a8, a9, a10] ++ kk)) so2.e) (valH (nmL ([a0, a1, a2, a3, a4, a5, a6, a7, a8, a9, a10] ++ kk)) so2.h)
    exact Go.Am.Fin.last (sem_fr 100000 99) z1 z2 z3 (fun g _ => rfl)
  have := law_of_fin (n := 99) (args := [nameV .i64 0, .a [nameV .u8 1, nameV .u8 2, nameV .u8 3, nameV .u8 4], .a [nameV .u8 5, nameV .u8 6, nameV .u8 7, nameV .u8 8, nameV .u8 9, nameV .u8 10]]) (tb := []) (ρ := nmL ([a0, a1, a2, a3, a4, a5, a6, a7, a8, a9, a10] ++ kk)) Tryz.func8 (by rw [lx]; kernel_rfl) (by kernel_rfl) F
  have hv : vals (nmL ([a0, a1, a2, a3, a4, a5, a6, a7, a8, a9, a10] ++ kk)) [nameV .i64 0, .a [nameV .u8 1, nameV .u8 2, nameV .u8 3, nameV .u8 4], .a [nameV .u8 5, nameV .u8 6, nameV .u8 7, nameV .u8 8, nameV .u8 9, nameV .u8 10]] = [.i .i64 a0, .a [.i .u8 a1, .i .u8 a2, .i .u8 a3, .i .u8 a4], .a [.i .u8 a5, .i .u8 a6, .i .u8 a7, .i .u8 a8, .i .u8 a9, .i .u8 a10]] := by
    simp only [vals, val, val_nameV]
    rfl
  rw [hv] at this
  exact this
end Go.Proofs.YtcebbmappnbegaaGreatDoor.gateArps
