/- ScriptKnown: its run, out of its pieces. -/
import Derived.Test.YtcebbmappnbegaaGreatDoorScriptKnownR0
import Derived.Test.YtcebbmappnbegaaGreatDoorScriptKnownR1
set_option linter.unusedSimpArgs false
set_option linter.unusedVariables false
set_option linter.unusedSectionVars false
set_option linter.unnecessarySimpa false
set_option maxRecDepth 100000
namespace Go.Proofs.YtcebbmappnbegaaGreatDoor.scriptKnown
open Go.Am
theorem ran : ∃ h', sem (mkX Tryz.prog) 100000 100 3 [] ⟨16, lay []⟩ = some (.b true, h') := by
  obtain ⟨kk, q', e', h', z1, z2, z3⟩ := end_ok (l := []) Bodies.xc Bodies.tabOkO stpe rfl trivial
  have F : Fin (mkX Tryz.prog) (sem (mkX Tryz.prog) 100000 99) 100000 Tryz.f3.results.toList (fun v _ => v = .b true) [.s C0] .n (valE (nmL ([] ++ kk)) st0.e) (valH (nmL ([] ++ kk)) st0.h) := by
    refine Fin.deep (a := []) (deep_seq C0 [] (by kernel_rfl)) ?_
    show Fin (mkX Tryz.prog) (sem (mkX Tryz.prog) 100000 99) 100000 Tryz.f3.results.toList _ [.s C1, .s C2] .n (valE (nmL ([] ++ kk)) st0.e) (valH (nmL ([] ++ kk)) st0.h)
    refine Fin.deep (a := [.s C1]) (deep_seq C2 [] (by kernel_rfl)) ?_
    show Fin (mkX Tryz.prog) (sem (mkX Tryz.prog) 100000 99) 100000 Tryz.f3.results.toList _ [.s C1, .s C3, .s C4] .n (valE (nmL ([] ++ kk)) st0.e) (valH (nmL ([] ++ kk)) st0.h)
    refine Fin.deep (a := [.s C1, .s C3]) (deep_seq C4 [] (by kernel_rfl)) ?_
    show Fin (mkX Tryz.prog) (sem (mkX Tryz.prog) 100000 99) 100000 Tryz.f3.results.toList _ [.s C1, .s C3, .s C5, .s C6] .n (valE (nmL ([] ++ kk)) st0.e) (valH (nmL ([] ++ kk)) st0.h)
    refine Fin.deep (a := [.s C1, .s C3, .s C5]) (deep_seq C6 [] (by kernel_rfl)) ?_
    show Fin (mkX Tryz.prog) (sem (mkX Tryz.prog) 100000 99) 100000 Tryz.f3.results.toList _ [.s C1, .s C3, .s C5, .s C7, .s C8] .n (valE (nmL ([] ++ kk)) st0.e) (valH (nmL ([] ++ kk)) st0.h)
    refine Fin.deep (a := [.s C1, .s C3, .s C5, .s C7]) (deep_seq C8 [] (by kernel_rfl)) ?_
    show Fin (mkX Tryz.prog) (sem (mkX Tryz.prog) 100000 99) 100000 Tryz.f3.results.toList _ [.s C1, .s C3, .s C5, .s C7, .s C9, .s C10] .n (valE (nmL ([] ++ kk)) st0.e) (valH (nmL ([] ++ kk)) st0.h)
    refine Fin.step (a := [.s C1, .s C3, .s C5, .s C7]) (sem_fr 100000 99) (piece_ok (l := []) Bodies.xc Bodies.tabOkO stp1 rfl trivial kk) ?_
    show Fin (mkX Tryz.prog) (sem (mkX Tryz.prog) 100000 99) 100000 Tryz.f3.results.toList _ [.s C9, .s C10] .n (valE (nmL ([] ++ kk)) st1.e) (valH (nmL ([] ++ kk)) st1.h)
    refine Fin.deep (a := [.s C9]) (deep_seq C10 [] (by kernel_rfl)) ?_
    show Fin (mkX Tryz.prog) (sem (mkX Tryz.prog) 100000 99) 100000 Tryz.f3.results.toList _ [.s C9, .s C11, .s C12] .n (valE (nmL ([] ++ kk)) st1.e) (valH (nmL ([] ++ kk)) st1.h)
    refine Fin.deep (a := [.s C9, .s C11]) (deep_seq C12 [] (by kernel_rfl)) ?_
    show Fin (mkX Tryz.prog) (sem (mkX Tryz.prog) 100000 99) 100000 Tryz.f3.results.toList _ [.s C9, .s C11, .s C13, .s C14] .n (valE (nmL ([] ++ kk)) st1.e) (valH (nmL ([] ++ kk)) st1.h)
    refine Fin.step (a := [.s C9, .s C11]) (sem_fr 100000 99) (piece_ok (l := []) Bodies.xc Bodies.tabOkO stp2 rfl trivial kk) ?_
    show Fin (mkX Tryz.prog) (sem (mkX Tryz.prog) 100000 99) 100000 Tryz.f3.results.toList _ [.s C13, .s C14] .n (valE (nmL ([] ++ kk)) st2.e) (valH (nmL ([] ++ kk)) st2.h)
    refine Fin.deep (a := [.s C13]) (deep_seq C14 [] (by kernel_rfl)) ?_
    show Fin (mkX Tryz.prog) (sem (mkX Tryz.prog) 100000 99) 100000 Tryz.f3.results.toList _ [.s C13, .s C15, .s C16] .n (valE (nmL ([] ++ kk)) st2.e) (valH (nmL ([] ++ kk)) st2.h)
    refine Fin.step (a := [.s C13]) (sem_fr 100000 99) (piece_ok (l := []) Bodies.xc Bodies.tabOkO stp3 rfl trivial kk) ?_
    show Fin (mkX Tryz.prog) (sem (mkX Tryz.prog) 100000 99) 100000 Tryz.f3.results.toList _ [.s C15, .s C16] .n (valE (nmL ([] ++ kk)) st3.e) (valH (nmL ([] ++ kk)) st3.h)
    exact Go.Am.Fin.last (sem_fr 100000 99) z1 z2 z3 (fun g _ => rfl)
  have := law_of_fin (n := 99) (args := []) (tb := []) (ρ := nmL ([] ++ kk)) Tryz.func3 (by kernel_rfl) (by kernel_rfl) F
  exact this
end Go.Proofs.YtcebbmappnbegaaGreatDoor.scriptKnown
