/- GateKnown: its run, out of its pieces. -/
import Derived.Test.YtcebbmappnbegaaGreatDoorGateKnownR0
import Derived.Test.YtcebbmappnbegaaGreatDoorGateKnownR1
import Derived.Test.YtcebbmappnbegaaGreatDoorGateKnownR2
import Derived.Test.YtcebbmappnbegaaGreatDoorGateKnownR3
import Derived.Test.YtcebbmappnbegaaGreatDoorGateKnownR4
import Derived.Test.YtcebbmappnbegaaGreatDoorGateKnownR5
import Derived.Test.YtcebbmappnbegaaGreatDoorGateKnownR6
import Derived.Test.YtcebbmappnbegaaGreatDoorGateKnownR7
import Derived.Test.YtcebbmappnbegaaGreatDoorGateKnownR8
import Derived.Test.YtcebbmappnbegaaGreatDoorGateKnownR9
import Derived.Test.YtcebbmappnbegaaGreatDoorGateKnownR10
import Derived.Test.YtcebbmappnbegaaGreatDoorGateKnownR11
import Derived.Test.YtcebbmappnbegaaGreatDoorGateKnownR12
import Derived.Test.YtcebbmappnbegaaGreatDoorGateKnownR13
import Derived.Test.YtcebbmappnbegaaGreatDoorGateKnownR14
import Derived.Test.YtcebbmappnbegaaGreatDoorGateKnownR15
set_option linter.unusedSimpArgs false
set_option linter.unusedVariables false
set_option linter.unusedSectionVars false
set_option linter.unnecessarySimpa false
set_option maxRecDepth 100000
namespace Go.Proofs.YtcebbmappnbegaaGreatDoor.gateKnown
open Go.Am
theorem upRan (kk : List Int) : ∃ h', sem (mkX Tryz.prog) 100000 99 20 [] ⟨412, .l⟩ = some ((.p 599 0), h') ∧ Sub (valH (nmL ([] ++ kk)) ut12.h) h' := by
  refine call_of_fin (n := 98) (ρ := nmL ([] ++ kk)) Tryz.func20 (by kernel_rfl) (by kernel_rfl) ?_
  show Fin (mkX Tryz.prog) (sem (mkX Tryz.prog) 100000 98) 100000 Tryz.f20.results.toList _ [.s K0] .n (valE (nmL ([] ++ kk)) ut0.e) (valH (nmL ([] ++ kk)) ut0.h)
  refine Fin.deep (a := []) (deep_seq K0 [] (by kernel_rfl)) ?_
  show Fin (mkX Tryz.prog) (sem (mkX Tryz.prog) 100000 98) 100000 Tryz.f20.results.toList _ [.s K1, .s K2] .n (valE (nmL ([] ++ kk)) ut0.e) (valH (nmL ([] ++ kk)) ut0.h)
  refine Fin.deep (a := [.s K1]) (deep_seq K2 [] (by kernel_rfl)) ?_
  show Fin (mkX Tryz.prog) (sem (mkX Tryz.prog) 100000 98) 100000 Tryz.f20.results.toList _ [.s K1, .s K3, .s K4] .n (valE (nmL ([] ++ kk)) ut0.e) (valH (nmL ([] ++ kk)) ut0.h)
  refine Fin.deep (a := [.s K1, .s K3]) (deep_seq K4 [] (by kernel_rfl)) ?_
  show Fin (mkX Tryz.prog) (sem (mkX Tryz.prog) 100000 98) 100000 Tryz.f20.results.toList _ [.s K1, .s K3, .s K5, .s K6] .n (valE (nmL ([] ++ kk)) ut0.e) (valH (nmL ([] ++ kk)) ut0.h)
  refine Fin.deep (a := [.s K1, .s K3, .s K5]) (deep_seq K6 [] (by kernel_rfl)) ?_
  show Fin (mkX Tryz.prog) (sem (mkX Tryz.prog) 100000 98) 100000 Tryz.f20.results.toList _ [.s K1, .s K3, .s K5, .s K7, .s K8] .n (valE (nmL ([] ++ kk)) ut0.e) (valH (nmL ([] ++ kk)) ut0.h)
  refine Fin.deep (a := [.s K1, .s K3, .s K5, .s K7]) (deep_seq K8 [] (by kernel_rfl)) ?_
  show Fin (mkX Tryz.prog) (sem (mkX Tryz.prog) 100000 98) 100000 Tryz.f20.results.toList _ [.s K1, .s K3, .s K5, .s K7, .s K9, .s K10] .n (valE (nmL ([] ++ kk)) ut0.e) (valH (nmL ([] ++ kk)) ut0.h)
  refine Fin.step (a := [.s K1, .s K3, .s K5, .s K7]) (sem_fr 100000 98) (piece_ok (l := []) Bodies.xc Bodies.tabOkO utp1 rfl trivial kk) ?_
  show Fin (mkX Tryz.prog) (sem (mkX Tryz.prog) 100000 98) 100000 Tryz.f20.results.toList _ [.s K9, .s K10] .n (valE (nmL ([] ++ kk)) ut1.e) (valH (nmL ([] ++ kk)) ut1.h)
  refine Fin.deep (a := [.s K9]) (deep_seq K10 [] (by kernel_rfl)) ?_
  show Fin (mkX Tryz.prog) (sem (mkX Tryz.prog) 100000 98) 100000 Tryz.f20.results.toList _ [.s K9, .s K11, .s K12] .n (valE (nmL ([] ++ kk)) ut1.e) (valH (nmL ([] ++ kk)) ut1.h)
  refine Fin.step (a := [.s K9]) (sem_fr 100000 98) (piece_ok (l := []) Bodies.xc Bodies.tabOkO utp2 rfl trivial kk) ?_
  show Fin (mkX Tryz.prog) (sem (mkX Tryz.prog) 100000 98) 100000 Tryz.f20.results.toList _ [.s K11, .s K12] .n (valE (nmL ([] ++ kk)) ut2.e) (valH (nmL ([] ++ kk)) ut2.h)
  refine Fin.deep (a := [.s K11]) (deep_seq K12 [] (by kernel_rfl)) ?_
  show Fin (mkX Tryz.prog) (sem (mkX Tryz.prog) 100000 98) 100000 Tryz.f20.results.toList _ [.s K11, .s K13, .s K14] .n (valE (nmL ([] ++ kk)) ut2.e) (valH (nmL ([] ++ kk)) ut2.h)
  refine Fin.deep (a := [.s K11]) (deep_seq K13 [.s K14] (by kernel_rfl)) ?_
  show Fin (mkX Tryz.prog) (sem (mkX Tryz.prog) 100000 98) 100000 Tryz.f20.results.toList _ [.s K11, .s K15, .s K16, .s K14] .n (valE (nmL ([] ++ kk)) ut2.e) (valH (nmL ([] ++ kk)) ut2.h)
  refine Fin.step (a := [.s K11, .s K15]) (sem_fr 100000 98) (piece_ok (l := []) Bodies.xc Bodies.tabOkO utp3 rfl trivial kk) ?_
  show Fin (mkX Tryz.prog) (sem (mkX Tryz.prog) 100000 98) 100000 Tryz.f20.results.toList _ [.s K16, .s K14] .n (valE (nmL ([] ++ kk)) ut3.e) (valH (nmL ([] ++ kk)) ut3.h)
  refine Fin.block' (n := K16) (by kernel_rfl) ?_
  show Fin (mkX Tryz.prog) (sem (mkX Tryz.prog) 100000 98) 100000 Tryz.f20.results.toList _ [.s K17, .b 0, .s K14] .n (valE (nmL ([] ++ kk)) ut3.e) (valH (nmL ([] ++ kk)) ut3.h)
  refine Fin.deep (a := []) (deep_loop K17 [.b 0, .s K14] (by kernel_rfl)) ?_
  show Fin (mkX Tryz.prog) (sem (mkX Tryz.prog) 100000 98) 100000 Tryz.f20.results.toList _ [.l K18 100000, .b 0, .s K14] .n (valE (nmL ([] ++ kk)) ut3.e) (valH (nmL ([] ++ kk)) ut3.h)
  refine Fin.deep (a := []) (deep_round K18 99999 [.b 0, .s K14]) ?_
  show Fin (mkX Tryz.prog) (sem (mkX Tryz.prog) 100000 98) 100000 Tryz.f20.results.toList _ [.s K18, .l K18 99999, .b 0, .s K14] .n (valE (nmL ([] ++ kk)) ut3.e) (valH (nmL ([] ++ kk)) ut3.h)
  refine Fin.deep (a := []) (deep_seq K18 [.l K18 99999, .b 0, .s K14] (by kernel_rfl)) ?_
  show Fin (mkX Tryz.prog) (sem (mkX Tryz.prog) 100000 98) 100000 Tryz.f20.results.toList _ [.s K19, .s K20, .l K18 99999, .b 0, .s K14] .n (valE (nmL ([] ++ kk)) ut3.e) (valH (nmL ([] ++ kk)) ut3.h)
  refine Fin.deep (a := [.s K19]) (deep_seq K20 [.l K18 99999, .b 0, .s K14] (by kernel_rfl)) ?_
  show Fin (mkX Tryz.prog) (sem (mkX Tryz.prog) 100000 98) 100000 Tryz.f20.results.toList _ [.s K19, .s K21, .s K22, .l K18 99999, .b 0, .s K14] .n (valE (nmL ([] ++ kk)) ut3.e) (valH (nmL ([] ++ kk)) ut3.h)
  refine Fin.step (a := [.s K19]) (sem_fr 100000 98) (piece_ok (l := []) Bodies.xc Bodies.tabOkO utp4 rfl trivial kk) ?_
  show Fin (mkX Tryz.prog) (sem (mkX Tryz.prog) 100000 98) 100000 Tryz.f20.results.toList _ [.s K21, .s K22, .l K18 99999, .b 0, .s K14] .n (valE (nmL ([] ++ kk)) ut4.e) (valH (nmL ([] ++ kk)) ut4.h)
  refine Fin.block' (n := K21) (by kernel_rfl) ?_
  show Fin (mkX Tryz.prog) (sem (mkX Tryz.prog) 100000 98) 100000 Tryz.f20.results.toList _ [.s K23, .b 1, .s K22, .l K18 99999, .b 0, .s K14] .n (valE (nmL ([] ++ kk)) ut4.e) (valH (nmL ([] ++ kk)) ut4.h)
  refine Fin.deep (a := []) (deep_seq K23 [.b 1, .s K22, .l K18 99999, .b 0, .s K14] (by kernel_rfl)) ?_
  show Fin (mkX Tryz.prog) (sem (mkX Tryz.prog) 100000 98) 100000 Tryz.f20.results.toList _ [.s K24, .s K25, .b 1, .s K22, .l K18 99999, .b 0, .s K14] .n (valE (nmL ([] ++ kk)) ut4.e) (valH (nmL ([] ++ kk)) ut4.h)
  refine Fin.step (a := [.s K24]) (sem_fr 100000 98) (piece_ok (l := []) Bodies.xc Bodies.tabOkO utp5 rfl trivial kk) ?_
  show Fin (mkX Tryz.prog) (sem (mkX Tryz.prog) 100000 98) 100000 Tryz.f20.results.toList _ [.s K25, .b 1, .s K22, .l K18 99999, .b 0, .s K14] .n (valE (nmL ([] ++ kk)) ut5.e) (valH (nmL ([] ++ kk)) ut5.h)
  refine Fin.step (a := [.s K25, .b 1, .s K22]) (sem_fr 100000 98) (piece_ok (l := []) Bodies.xc Bodies.tabOkO utp6 rfl trivial kk) ?_
  show Fin (mkX Tryz.prog) (sem (mkX Tryz.prog) 100000 98) 100000 Tryz.f20.results.toList _ [.l K18 99999, .b 0, .s K14] .n (valE (nmL ([] ++ kk)) ut6.e) (valH (nmL ([] ++ kk)) ut6.h)
  refine Fin.deep (a := []) (deep_round K18 99998 [.b 0, .s K14]) ?_
  show Fin (mkX Tryz.prog) (sem (mkX Tryz.prog) 100000 98) 100000 Tryz.f20.results.toList _ [.s K18, .l K18 99998, .b 0, .s K14] .n (valE (nmL ([] ++ kk)) ut6.e) (valH (nmL ([] ++ kk)) ut6.h)
  refine Fin.deep (a := []) (deep_seq K18 [.l K18 99998, .b 0, .s K14] (by kernel_rfl)) ?_
  show Fin (mkX Tryz.prog) (sem (mkX Tryz.prog) 100000 98) 100000 Tryz.f20.results.toList _ [.s K26, .s K27, .l K18 99998, .b 0, .s K14] .n (valE (nmL ([] ++ kk)) ut6.e) (valH (nmL ([] ++ kk)) ut6.h)
  refine Fin.deep (a := [.s K26]) (deep_seq K27 [.l K18 99998, .b 0, .s K14] (by kernel_rfl)) ?_
  show Fin (mkX Tryz.prog) (sem (mkX Tryz.prog) 100000 98) 100000 Tryz.f20.results.toList _ [.s K26, .s K28, .s K29, .l K18 99998, .b 0, .s K14] .n (valE (nmL ([] ++ kk)) ut6.e) (valH (nmL ([] ++ kk)) ut6.h)
  refine Fin.step (a := [.s K26]) (sem_fr 100000 98) (piece_ok (l := []) Bodies.xc Bodies.tabOkO utp7 rfl trivial kk) ?_
  show Fin (mkX Tryz.prog) (sem (mkX Tryz.prog) 100000 98) 100000 Tryz.f20.results.toList _ [.s K28, .s K29, .l K18 99998, .b 0, .s K14] .n (valE (nmL ([] ++ kk)) ut7.e) (valH (nmL ([] ++ kk)) ut7.h)
  refine Fin.block' (n := K28) (by kernel_rfl) ?_
  show Fin (mkX Tryz.prog) (sem (mkX Tryz.prog) 100000 98) 100000 Tryz.f20.results.toList _ [.s K30, .b 1, .s K29, .l K18 99998, .b 0, .s K14] .n (valE (nmL ([] ++ kk)) ut7.e) (valH (nmL ([] ++ kk)) ut7.h)
  refine Fin.deep (a := []) (deep_seq K30 [.b 1, .s K29, .l K18 99998, .b 0, .s K14] (by kernel_rfl)) ?_
  show Fin (mkX Tryz.prog) (sem (mkX Tryz.prog) 100000 98) 100000 Tryz.f20.results.toList _ [.s K31, .s K32, .b 1, .s K29, .l K18 99998, .b 0, .s K14] .n (valE (nmL ([] ++ kk)) ut7.e) (valH (nmL ([] ++ kk)) ut7.h)
  refine Fin.step (a := [.s K31]) (sem_fr 100000 98) (piece_ok (l := []) Bodies.xc Bodies.tabOkO utp8 rfl trivial kk) ?_
  show Fin (mkX Tryz.prog) (sem (mkX Tryz.prog) 100000 98) 100000 Tryz.f20.results.toList _ [.s K32, .b 1, .s K29, .l K18 99998, .b 0, .s K14] .n (valE (nmL ([] ++ kk)) ut8.e) (valH (nmL ([] ++ kk)) ut8.h)
  refine Fin.step (a := [.s K32, .b 1, .s K29]) (sem_fr 100000 98) (piece_ok (l := []) Bodies.xc Bodies.tabOkO utp9 rfl trivial kk) ?_
  show Fin (mkX Tryz.prog) (sem (mkX Tryz.prog) 100000 98) 100000 Tryz.f20.results.toList _ [.l K18 99998, .b 0, .s K14] .n (valE (nmL ([] ++ kk)) ut9.e) (valH (nmL ([] ++ kk)) ut9.h)
  refine Fin.deep (a := []) (deep_round K18 99997 [.b 0, .s K14]) ?_
  show Fin (mkX Tryz.prog) (sem (mkX Tryz.prog) 100000 98) 100000 Tryz.f20.results.toList _ [.s K18, .l K18 99997, .b 0, .s K14] .n (valE (nmL ([] ++ kk)) ut9.e) (valH (nmL ([] ++ kk)) ut9.h)
  refine Fin.deep (a := []) (deep_seq K18 [.l K18 99997, .b 0, .s K14] (by kernel_rfl)) ?_
  show Fin (mkX Tryz.prog) (sem (mkX Tryz.prog) 100000 98) 100000 Tryz.f20.results.toList _ [.s K33, .s K34, .l K18 99997, .b 0, .s K14] .n (valE (nmL ([] ++ kk)) ut9.e) (valH (nmL ([] ++ kk)) ut9.h)
  refine Fin.deep (a := [.s K33]) (deep_seq K34 [.l K18 99997, .b 0, .s K14] (by kernel_rfl)) ?_
  show Fin (mkX Tryz.prog) (sem (mkX Tryz.prog) 100000 98) 100000 Tryz.f20.results.toList _ [.s K33, .s K35, .s K36, .l K18 99997, .b 0, .s K14] .n (valE (nmL ([] ++ kk)) ut9.e) (valH (nmL ([] ++ kk)) ut9.h)
  refine Fin.step (a := [.s K33]) (sem_fr 100000 98) (piece_ok (l := []) Bodies.xc Bodies.tabOkO utp10 rfl trivial kk) ?_
  show Fin (mkX Tryz.prog) (sem (mkX Tryz.prog) 100000 98) 100000 Tryz.f20.results.toList _ [.s K35, .s K36, .l K18 99997, .b 0, .s K14] .n (valE (nmL ([] ++ kk)) ut10.e) (valH (nmL ([] ++ kk)) ut10.h)
  refine Fin.block' (n := K35) (by kernel_rfl) ?_
  show Fin (mkX Tryz.prog) (sem (mkX Tryz.prog) 100000 98) 100000 Tryz.f20.results.toList _ [.s K37, .b 1, .s K36, .l K18 99997, .b 0, .s K14] .n (valE (nmL ([] ++ kk)) ut10.e) (valH (nmL ([] ++ kk)) ut10.h)
  refine Fin.deep (a := []) (deep_seq K37 [.b 1, .s K36, .l K18 99997, .b 0, .s K14] (by kernel_rfl)) ?_
  show Fin (mkX Tryz.prog) (sem (mkX Tryz.prog) 100000 98) 100000 Tryz.f20.results.toList _ [.s K38, .s K39, .b 1, .s K36, .l K18 99997, .b 0, .s K14] .n (valE (nmL ([] ++ kk)) ut10.e) (valH (nmL ([] ++ kk)) ut10.h)
  refine Fin.step (a := [.s K38]) (sem_fr 100000 98) (piece_ok (l := []) Bodies.xc Bodies.tabOkO utp11 rfl trivial kk) ?_
  show Fin (mkX Tryz.prog) (sem (mkX Tryz.prog) 100000 98) 100000 Tryz.f20.results.toList _ [.s K39, .b 1, .s K36, .l K18 99997, .b 0, .s K14] .n (valE (nmL ([] ++ kk)) ut11.e) (valH (nmL ([] ++ kk)) ut11.h)
  exact Fin.ret (sem_fr 100000 98) (piece_ok (l := []) Bodies.xc Bodies.tabOkO utp12 rfl trivial kk) (Or.inr rfl) (resL_val (ρ := nmL ([] ++ kk)) _ utrv) (fun g s => ⟨rfl, s⟩)
theorem ran : ∃ h', sem (mkX Tryz.prog) 100000 100 5 [] ⟨16, lay []⟩ = some (.b true, h') := by
  obtain ⟨kk, q', e', h', z1, z2, z3⟩ := end_ok (l := []) Bodies.xc Bodies.tabOkO stpe rfl trivial
  have F : Fin (mkX Tryz.prog) (sem (mkX Tryz.prog) 100000 99) 100000 Tryz.f5.results.toList (fun v _ => v = .b true) [.s C0] .n (valE (nmL ([] ++ kk)) st0.e) (valH (nmL ([] ++ kk)) st0.h) := by
    refine Fin.deep (a := []) (deep_seq C0 [] (by kernel_rfl)) ?_
    show Fin (mkX Tryz.prog) (sem (mkX Tryz.prog) 100000 99) 100000 Tryz.f5.results.toList _ [.s C1, .s C2] .n (valE (nmL ([] ++ kk)) st0.e) (valH (nmL ([] ++ kk)) st0.h)
    refine Fin.deep (a := [.s C1]) (deep_seq C2 [] (by kernel_rfl)) ?_
    show Fin (mkX Tryz.prog) (sem (mkX Tryz.prog) 100000 99) 100000 Tryz.f5.results.toList _ [.s C1, .s C3, .s C4] .n (valE (nmL ([] ++ kk)) st0.e) (valH (nmL ([] ++ kk)) st0.h)
    refine Fin.deep (a := [.s C1]) (deep_seq C3 [.s C4] (by kernel_rfl)) ?_
    show Fin (mkX Tryz.prog) (sem (mkX Tryz.prog) 100000 99) 100000 Tryz.f5.results.toList _ [.s C1, .s C5, .s C6, .s C4] .n (valE (nmL ([] ++ kk)) st0.e) (valH (nmL ([] ++ kk)) st0.h)
    refine Fin.step (a := [.s C1]) (sem_fr 100000 99) (piece_ok (l := []) Bodies.xc Bodies.tabOkO stp1 rfl trivial kk) ?_
    show Fin (mkX Tryz.prog) (sem (mkX Tryz.prog) 100000 99) 100000 Tryz.f5.results.toList _ [.s C5, .s C6, .s C4] .n (valE (nmL ([] ++ kk)) st1.e) (valH (nmL ([] ++ kk)) st1.h)
    refine Fin.step (a := [.s C5]) (sem_fr 100000 99) (piece_ok (l := []) Bodies.xc Bodies.tabOkO stp2 rfl trivial kk) ?_
    show Fin (mkX Tryz.prog) (sem (mkX Tryz.prog) 100000 99) 100000 Tryz.f5.results.toList _ [.s C6, .s C4] .n (valE (nmL ([] ++ kk)) st2.e) (valH (nmL ([] ++ kk)) st2.h)
    refine Fin.deep (a := [.s C6]) (deep_seq C4 [] (by kernel_rfl)) ?_
    show Fin (mkX Tryz.prog) (sem (mkX Tryz.prog) 100000 99) 100000 Tryz.f5.results.toList _ [.s C6, .s C7, .s C8] .n (valE (nmL ([] ++ kk)) st2.e) (valH (nmL ([] ++ kk)) st2.h)
    refine Fin.deep (a := [.s C6, .s C7]) (deep_seq C8 [] (by kernel_rfl)) ?_
    show Fin (mkX Tryz.prog) (sem (mkX Tryz.prog) 100000 99) 100000 Tryz.f5.results.toList _ [.s C6, .s C7, .s C9, .s C10] .n (valE (nmL ([] ++ kk)) st2.e) (valH (nmL ([] ++ kk)) st2.h)
    refine Fin.step (a := [.s C6, .s C7]) (sem_fr 100000 99) (piece_ok (l := []) Bodies.xc Bodies.tabOkO stp3 rfl trivial kk) ?_
    show Fin (mkX Tryz.prog) (sem (mkX Tryz.prog) 100000 99) 100000 Tryz.f5.results.toList _ [.s C9, .s C10] .n (valE (nmL ([] ++ kk)) st3.e) (valH (nmL ([] ++ kk)) st3.h)
    refine Fin.call3 stc4r stc4a stc4b stc4d stc4e stc4f stc4g stc4h stc4i stc4j (call_known (upRan kk) (okU_ok stc4u _).1 (okU_ok stc4u _).2) (stc4v _) ?_
    show Fin (mkX Tryz.prog) (sem (mkX Tryz.prog) 100000 99) 100000 Tryz.f5.results.toList _ [.s C10] .n (valE (nmL ([] ++ kk)) st4.e) (valH (nmL ([] ++ kk)) st4.h)
    refine Fin.deep (a := []) (deep_seq C10 [] (by kernel_rfl)) ?_
    show Fin (mkX Tryz.prog) (sem (mkX Tryz.prog) 100000 99) 100000 Tryz.f5.results.toList _ [.s C11, .s C12] .n (valE (nmL ([] ++ kk)) st4.e) (valH (nmL ([] ++ kk)) st4.h)
    refine Fin.deep (a := [.s C11]) (deep_seq C12 [] (by kernel_rfl)) ?_
    show Fin (mkX Tryz.prog) (sem (mkX Tryz.prog) 100000 99) 100000 Tryz.f5.results.toList _ [.s C11, .s C13, .s C14] .n (valE (nmL ([] ++ kk)) st4.e) (valH (nmL ([] ++ kk)) st4.h)
    refine Fin.deep (a := [.s C11, .s C13]) (deep_seq C14 [] (by kernel_rfl)) ?_
    show Fin (mkX Tryz.prog) (sem (mkX Tryz.prog) 100000 99) 100000 Tryz.f5.results.toList _ [.s C11, .s C13, .s C15, .s C16] .n (valE (nmL ([] ++ kk)) st4.e) (valH (nmL ([] ++ kk)) st4.h)
    refine Fin.deep (a := [.s C11, .s C13, .s C15]) (deep_seq C16 [] (by kernel_rfl)) ?_
    show Fin (mkX Tryz.prog) (sem (mkX Tryz.prog) 100000 99) 100000 Tryz.f5.results.toList _ [.s C11, .s C13, .s C15, .s C17, .s C18] .n (valE (nmL ([] ++ kk)) st4.e) (valH (nmL ([] ++ kk)) st4.h)
    refine Fin.step (a := [.s C11, .s C13, .s C15]) (sem_fr 100000 99) (piece_ok (l := []) Bodies.xc Bodies.tabOkO stp5 rfl trivial kk) ?_
    show Fin (mkX Tryz.prog) (sem (mkX Tryz.prog) 100000 99) 100000 Tryz.f5.results.toList _ [.s C17, .s C18] .n (valE (nmL ([] ++ kk)) st5.e) (valH (nmL ([] ++ kk)) st5.h)
    refine Fin.deep (a := [.s C17]) (deep_seq C18 [] (by kernel_rfl)) ?_
    show Fin (mkX Tryz.prog) (sem (mkX Tryz.prog) 100000 99) 100000 Tryz.f5.results.toList _ [.s C17, .s C19, .s C20] .n (valE (nmL ([] ++ kk)) st5.e) (valH (nmL ([] ++ kk)) st5.h)
    refine Fin.step (a := [.s C17]) (sem_fr 100000 99) (piece_ok (l := []) Bodies.xc Bodies.tabOkO stp6 rfl trivial kk) ?_
    show Fin (mkX Tryz.prog) (sem (mkX Tryz.prog) 100000 99) 100000 Tryz.f5.results.toList _ [.s C19, .s C20] .n (valE (nmL ([] ++ kk)) st6.e) (valH (nmL ([] ++ kk)) st6.h)
    exact Go.Am.Fin.last (sem_fr 100000 99) z1 z2 z3 (fun g _ => rfl)
  have := law_of_fin (n := 99) (args := []) (tb := []) (ρ := nmL ([] ++ kk)) Tryz.func5 (by kernel_rfl) (by kernel_rfl) F
  exact this
end Go.Proofs.YtcebbmappnbegaaGreatDoor.gateKnown
