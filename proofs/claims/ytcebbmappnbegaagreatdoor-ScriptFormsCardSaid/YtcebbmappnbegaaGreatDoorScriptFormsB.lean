/- ScriptForms: its run, out of its pieces. -/
import Derived.Test.YtcebbmappnbegaaGreatDoorScriptFormsR0
import Derived.Test.YtcebbmappnbegaaGreatDoorScriptFormsR1
import Derived.Test.YtcebbmappnbegaaGreatDoorScriptFormsR2
import Derived.Test.YtcebbmappnbegaaGreatDoorScriptFormsR3
import Derived.Test.YtcebbmappnbegaaGreatDoorScriptFormsR4
import Derived.Test.YtcebbmappnbegaaGreatDoorScriptFormsR5
import Derived.Test.YtcebbmappnbegaaGreatDoorScriptFormsR6
import Derived.Test.YtcebbmappnbegaaGreatDoorScriptFormsR7
import Derived.Test.YtcebbmappnbegaaGreatDoorScriptFormsR8
import Derived.Test.YtcebbmappnbegaaGreatDoorScriptFormsR9
import Derived.Test.YtcebbmappnbegaaGreatDoorScriptFormsR10
import Derived.Test.YtcebbmappnbegaaGreatDoorScriptFormsR11
import Derived.Test.YtcebbmappnbegaaGreatDoorYtceLx
set_option linter.unusedSimpArgs false
set_option linter.unusedVariables false
set_option linter.unusedSectionVars false
set_option linter.unnecessarySimpa false
set_option maxRecDepth 100000
namespace Go.Proofs.YtcebbmappnbegaaGreatDoor.scriptForms
open Go.Am Go.Proofs.YtcebbmappnbegaaGreatDoor.Facts
theorem k0ran (a0 : Int) (l0 : (-9223372036854775808 : Int) ≤ a0) (u0 : a0 ≤ (9223372036854775807 : Int)) : ∃ h', sem (mkX Tryz.prog) 100000 100 4 [.i .i64 0, .i .i64 a0] ⟨16, lay []⟩ = some (.b true, h') := by
  obtain ⟨q', e', h', z1, z2, z3⟩ := endA_ok  lx Bodies.xc Bodies.tabOkO sk0pe (l := [a0]) (fits_cons l0 u0 fits_nil) trivial (σ := nmL ([a0] ++ ([] : List Int))) (fun i _ => by simp only [nmL, List.append_nil])
  have F : Fin (mkX Tryz.prog) (sem (mkX Tryz.prog) 100000 99) 100000 Tryz.f4.results.toList (fun v _ => v = .b true) [.s Ck00] .n (valE (nmL ([a0] ++ ([] : List Int))) sk00.e) (valH (nmL ([a0] ++ ([] : List Int))) sk00.h) := by
    refine Fin.deep (a := []) (deep_seq Ck00 [] (by kernel_rfl)) ?_
    show Fin (mkX Tryz.prog) (sem (mkX Tryz.prog) 100000 99) 100000 Tryz.f4.results.toList _ [.s Ck01, .s Ck02] .n (valE (nmL ([a0] ++ ([] : List Int))) sk00.e) (valH (nmL ([a0] ++ ([] : List Int))) sk00.h)
    refine Fin.step (a := [.s Ck01]) (sem_fr 100000 99) (piece_ok (l := [a0]) Bodies.xc Bodies.tabOkO sk0p1 rfl trivial []) ?_
    show Fin (mkX Tryz.prog) (sem (mkX Tryz.prog) 100000 99) 100000 Tryz.f4.results.toList _ [.s Ck02] .n (valE (nmL ([a0] ++ ([] : List Int))) sk01.e) (valH (nmL ([a0] ++ ([] : List Int))) sk01.h)
    refine Fin.deep (a := []) (deep_seq Ck02 [] (by kernel_rfl)) ?_
    show Fin (mkX Tryz.prog) (sem (mkX Tryz.prog) 100000 99) 100000 Tryz.f4.results.toList _ [.s Ck03, .s Ck04] .n (valE (nmL ([a0] ++ ([] : List Int))) sk01.e) (valH (nmL ([a0] ++ ([] : List Int))) sk01.h)
    refine Fin.step (a := [.s Ck03]) (sem_fr 100000 99) (piece_ok (l := [a0]) Bodies.xc Bodies.tabOkO sk0p2 rfl trivial []) ?_
    show Fin (mkX Tryz.prog) (sem (mkX Tryz.prog) 100000 99) 100000 Tryz.f4.results.toList _ [.s Ck04] .n (valE (nmL ([a0] ++ ([] : List Int))) sk02.e) (valH (nmL ([a0] ++ ([] : List Int))) sk02.h)
    refine Fin.deep (a := []) (deep_seq Ck04 [] (by kernel_rfl)) ?_
    show Fin (mkX Tryz.prog) (sem (mkX Tryz.prog) 100000 99) 100000 Tryz.f4.results.toList _ [.s Ck05, .s Ck06] .n (valE (nmL ([a0] ++ ([] : List Int))) sk02.e) (valH (nmL ([a0] ++ ([] : List Int))) sk02.h)
    refine Fin.step (a := [.s Ck05]) (sem_fr 100000 99) (piece_ok (l := [a0]) Bodies.xc Bodies.tabOkO sk0p3 rfl trivial []) ?_
    show Fin (mkX Tryz.prog) (sem (mkX Tryz.prog) 100000 99) 100000 Tryz.f4.results.toList _ [.s Ck06] .n (valE (nmL ([a0] ++ ([] : List Int))) sk03.e) (valH (nmL ([a0] ++ ([] : List Int))) sk03.h)
    refine Fin.deep (a := []) (deep_seq Ck06 [] (by kernel_rfl)) ?_
    show Fin (mkX Tryz.prog) (sem (mkX Tryz.prog) 100000 99) 100000 Tryz.f4.results.toList _ [.s Ck07, .s Ck08] .n (valE (nmL ([a0] ++ ([] : List Int))) sk03.e) (valH (nmL ([a0] ++ ([] : List Int))) sk03.h)
    refine Fin.step (a := [.s Ck07]) (sem_fr 100000 99) (piece_ok (l := [a0]) Bodies.xc Bodies.tabOkO sk0p4 rfl trivial []) ?_
    show Fin (mkX Tryz.prog) (sem (mkX Tryz.prog) 100000 99) 100000 Tryz.f4.results.toList _ [.s Ck08] .n (valE (nmL ([a0] ++ ([] : List Int))) sk04.e) (valH (nmL ([a0] ++ ([] : List Int))) sk04.h)
    refine Fin.deep (a := []) (deep_seq Ck08 [] (by kernel_rfl)) ?_
    show Fin (mkX Tryz.prog) (sem (mkX Tryz.prog) 100000 99) 100000 Tryz.f4.results.toList _ [.s Ck09, .s Ck010] .n (valE (nmL ([a0] ++ ([] : List Int))) sk04.e) (valH (nmL ([a0] ++ ([] : List Int))) sk04.h)
    refine Fin.step (a := [.s Ck09]) (sem_fr 100000 99) (piece_ok (l := [a0]) Bodies.xc Bodies.tabOkO sk0p5 rfl trivial []) ?_
    show Fin (mkX Tryz.prog) (sem (mkX Tryz.prog) 100000 99) 100000 Tryz.f4.results.toList _ [.s Ck010] .n (valE (nmL ([a0] ++ ([] : List Int))) sk05.e) (valH (nmL ([a0] ++ ([] : List Int))) sk05.h)
    refine Fin.deep (a := []) (deep_seq Ck010 [] (by kernel_rfl)) ?_
    show Fin (mkX Tryz.prog) (sem (mkX Tryz.prog) 100000 99) 100000 Tryz.f4.results.toList _ [.s Ck011, .s Ck012] .n (valE (nmL ([a0] ++ ([] : List Int))) sk05.e) (valH (nmL ([a0] ++ ([] : List Int))) sk05.h)
    refine Fin.step (a := [.s Ck011]) (sem_fr 100000 99) (piece_ok (l := [a0]) Bodies.xc Bodies.tabOkO sk0p6 rfl trivial []) ?_
    show Fin (mkX Tryz.prog) (sem (mkX Tryz.prog) 100000 99) 100000 Tryz.f4.results.toList _ [.s Ck012] .n (valE (nmL ([a0] ++ ([] : List Int))) sk06.e) (valH (nmL ([a0] ++ ([] : List Int))) sk06.h)
    refine Fin.deep (a := []) (deep_seq Ck012 [] (by kernel_rfl)) ?_
    show Fin (mkX Tryz.prog) (sem (mkX Tryz.prog) 100000 99) 100000 Tryz.f4.results.toList _ [.s Ck013, .s Ck014] .n (valE (nmL ([a0] ++ ([] : List Int))) sk06.e) (valH (nmL ([a0] ++ ([] : List Int))) sk06.h)
    refine Fin.deep (a := []) (deep_seq Ck013 [.s Ck014] (by kernel_rfl)) ?_
    show Fin (mkX Tryz.prog) (sem (mkX Tryz.prog) 100000 99) 100000 Tryz.f4.results.toList _ [.s Ck015, .s Ck016, .s Ck014] .n (valE (nmL ([a0] ++ ([] : List Int))) sk06.e) (valH (nmL ([a0] ++ ([] : List Int))) sk06.h)
    exact Go.Am.Fin.last (sem_fr 100000 99) z1 z2 z3 (fun g _ => rfl)
  have := law_of_fin (n := 99) (args := [.i .i64 (.ofNat 0), nameV .i64 0]) (tb := []) (ρ := nmL ([a0] ++ ([] : List Int))) Tryz.func4 (by rw [lx]; kernel_rfl) (by kernel_rfl) F
  have hv : vals (nmL ([a0] ++ ([] : List Int))) [.i .i64 (.ofNat 0), nameV .i64 0] = [.i .i64 0, .i .i64 a0] := by
    simp only [vals, val, val_nameV]
    rfl
  rw [hv] at this
  exact this
theorem k1ran (a0 : Int) (l0 : (-9223372036854775808 : Int) ≤ a0) (u0 : a0 ≤ (9223372036854775807 : Int)) : ∃ h', sem (mkX Tryz.prog) 100000 100 4 [.i .i64 1, .i .i64 a0] ⟨16, lay []⟩ = some (.b true, h') := by
  obtain ⟨q', e', h', z1, z2, z3⟩ := endA_ok  lx Bodies.xc Bodies.tabOkO sk1pe (l := [a0]) (fits_cons l0 u0 fits_nil) trivial (σ := nmL ([a0] ++ ([] : List Int))) (fun i _ => by simp only [nmL, List.append_nil])
  have F : Fin (mkX Tryz.prog) (sem (mkX Tryz.prog) 100000 99) 100000 Tryz.f4.results.toList (fun v _ => v = .b true) [.s Ck10] .n (valE (nmL ([a0] ++ ([] : List Int))) sk10.e) (valH (nmL ([a0] ++ ([] : List Int))) sk10.h) := by
    refine Fin.deep (a := []) (deep_seq Ck10 [] (by kernel_rfl)) ?_
    show Fin (mkX Tryz.prog) (sem (mkX Tryz.prog) 100000 99) 100000 Tryz.f4.results.toList _ [.s Ck11, .s Ck12] .n (valE (nmL ([a0] ++ ([] : List Int))) sk10.e) (valH (nmL ([a0] ++ ([] : List Int))) sk10.h)
    refine Fin.step (a := [.s Ck11]) (sem_fr 100000 99) (piece_ok (l := [a0]) Bodies.xc Bodies.tabOkO sk1p1 rfl trivial []) ?_
    show Fin (mkX Tryz.prog) (sem (mkX Tryz.prog) 100000 99) 100000 Tryz.f4.results.toList _ [.s Ck12] .n (valE (nmL ([a0] ++ ([] : List Int))) sk11.e) (valH (nmL ([a0] ++ ([] : List Int))) sk11.h)
    refine Fin.deep (a := []) (deep_seq Ck12 [] (by kernel_rfl)) ?_
    show Fin (mkX Tryz.prog) (sem (mkX Tryz.prog) 100000 99) 100000 Tryz.f4.results.toList _ [.s Ck13, .s Ck14] .n (valE (nmL ([a0] ++ ([] : List Int))) sk11.e) (valH (nmL ([a0] ++ ([] : List Int))) sk11.h)
    refine Fin.step (a := [.s Ck13]) (sem_fr 100000 99) (piece_ok (l := [a0]) Bodies.xc Bodies.tabOkO sk1p2 rfl trivial []) ?_
    show Fin (mkX Tryz.prog) (sem (mkX Tryz.prog) 100000 99) 100000 Tryz.f4.results.toList _ [.s Ck14] .n (valE (nmL ([a0] ++ ([] : List Int))) sk12.e) (valH (nmL ([a0] ++ ([] : List Int))) sk12.h)
    refine Fin.deep (a := []) (deep_seq Ck14 [] (by kernel_rfl)) ?_
    show Fin (mkX Tryz.prog) (sem (mkX Tryz.prog) 100000 99) 100000 Tryz.f4.results.toList _ [.s Ck15, .s Ck16] .n (valE (nmL ([a0] ++ ([] : List Int))) sk12.e) (valH (nmL ([a0] ++ ([] : List Int))) sk12.h)
    refine Fin.step (a := [.s Ck15]) (sem_fr 100000 99) (piece_ok (l := [a0]) Bodies.xc Bodies.tabOkO sk1p3 rfl trivial []) ?_
    show Fin (mkX Tryz.prog) (sem (mkX Tryz.prog) 100000 99) 100000 Tryz.f4.results.toList _ [.s Ck16] .n (valE (nmL ([a0] ++ ([] : List Int))) sk13.e) (valH (nmL ([a0] ++ ([] : List Int))) sk13.h)
    refine Fin.deep (a := []) (deep_seq Ck16 [] (by kernel_rfl)) ?_
    show Fin (mkX Tryz.prog) (sem (mkX Tryz.prog) 100000 99) 100000 Tryz.f4.results.toList _ [.s Ck17, .s Ck18] .n (valE (nmL ([a0] ++ ([] : List Int))) sk13.e) (valH (nmL ([a0] ++ ([] : List Int))) sk13.h)
    refine Fin.step (a := [.s Ck17]) (sem_fr 100000 99) (piece_ok (l := [a0]) Bodies.xc Bodies.tabOkO sk1p4 rfl trivial []) ?_
    show Fin (mkX Tryz.prog) (sem (mkX Tryz.prog) 100000 99) 100000 Tryz.f4.results.toList _ [.s Ck18] .n (valE (nmL ([a0] ++ ([] : List Int))) sk14.e) (valH (nmL ([a0] ++ ([] : List Int))) sk14.h)
    refine Fin.deep (a := []) (deep_seq Ck18 [] (by kernel_rfl)) ?_
    show Fin (mkX Tryz.prog) (sem (mkX Tryz.prog) 100000 99) 100000 Tryz.f4.results.toList _ [.s Ck19, .s Ck110] .n (valE (nmL ([a0] ++ ([] : List Int))) sk14.e) (valH (nmL ([a0] ++ ([] : List Int))) sk14.h)
    refine Fin.step (a := [.s Ck19]) (sem_fr 100000 99) (piece_ok (l := [a0]) Bodies.xc Bodies.tabOkO sk1p5 rfl trivial []) ?_
    show Fin (mkX Tryz.prog) (sem (mkX Tryz.prog) 100000 99) 100000 Tryz.f4.results.toList _ [.s Ck110] .n (valE (nmL ([a0] ++ ([] : List Int))) sk15.e) (valH (nmL ([a0] ++ ([] : List Int))) sk15.h)
    refine Fin.deep (a := []) (deep_seq Ck110 [] (by kernel_rfl)) ?_
    show Fin (mkX Tryz.prog) (sem (mkX Tryz.prog) 100000 99) 100000 Tryz.f4.results.toList _ [.s Ck111, .s Ck112] .n (valE (nmL ([a0] ++ ([] : List Int))) sk15.e) (valH (nmL ([a0] ++ ([] : List Int))) sk15.h)
    refine Fin.step (a := [.s Ck111]) (sem_fr 100000 99) (piece_ok (l := [a0]) Bodies.xc Bodies.tabOkO sk1p6 rfl trivial []) ?_
    show Fin (mkX Tryz.prog) (sem (mkX Tryz.prog) 100000 99) 100000 Tryz.f4.results.toList _ [.s Ck112] .n (valE (nmL ([a0] ++ ([] : List Int))) sk16.e) (valH (nmL ([a0] ++ ([] : List Int))) sk16.h)
    refine Fin.deep (a := []) (deep_seq Ck112 [] (by kernel_rfl)) ?_
    show Fin (mkX Tryz.prog) (sem (mkX Tryz.prog) 100000 99) 100000 Tryz.f4.results.toList _ [.s Ck113, .s Ck114] .n (valE (nmL ([a0] ++ ([] : List Int))) sk16.e) (valH (nmL ([a0] ++ ([] : List Int))) sk16.h)
    refine Fin.deep (a := []) (deep_seq Ck113 [.s Ck114] (by kernel_rfl)) ?_
    show Fin (mkX Tryz.prog) (sem (mkX Tryz.prog) 100000 99) 100000 Tryz.f4.results.toList _ [.s Ck115, .s Ck116, .s Ck114] .n (valE (nmL ([a0] ++ ([] : List Int))) sk16.e) (valH (nmL ([a0] ++ ([] : List Int))) sk16.h)
    exact Go.Am.Fin.last (sem_fr 100000 99) z1 z2 z3 (fun g _ => rfl)
  have := law_of_fin (n := 99) (args := [.i .i64 (.ofNat 1), nameV .i64 0]) (tb := []) (ρ := nmL ([a0] ++ ([] : List Int))) Tryz.func4 (by rw [lx]; kernel_rfl) (by kernel_rfl) F
  have hv : vals (nmL ([a0] ++ ([] : List Int))) [.i .i64 (.ofNat 1), nameV .i64 0] = [.i .i64 1, .i .i64 a0] := by
    simp only [vals, val, val_nameV]
    rfl
  rw [hv] at this
  exact this
theorem k2ran (a0 : Int) (l0 : (-9223372036854775808 : Int) ≤ a0) (u0 : a0 ≤ (9223372036854775807 : Int)) : ∃ h', sem (mkX Tryz.prog) 100000 100 4 [.i .i64 2, .i .i64 a0] ⟨16, lay []⟩ = some (.b true, h') := by
  obtain ⟨q', e', h', z1, z2, z3⟩ := endA_ok  lx Bodies.xc Bodies.tabOkO sk2pe (l := [a0]) (fits_cons l0 u0 fits_nil) trivial (σ := nmL ([a0] ++ ([] : List Int))) (fun i _ => by simp only [nmL, List.append_nil])
  have F : Fin (mkX Tryz.prog) (sem (mkX Tryz.prog) 100000 99) 100000 Tryz.f4.results.toList (fun v _ => v = .b true) [.s Ck20] .n (valE (nmL ([a0] ++ ([] : List Int))) sk20.e) (valH (nmL ([a0] ++ ([] : List Int))) sk20.h) := by
    refine Fin.deep (a := []) (deep_seq Ck20 [] (by kernel_rfl)) ?_
    show Fin (mkX Tryz.prog) (sem (mkX Tryz.prog) 100000 99) 100000 Tryz.f4.results.toList _ [.s Ck21, .s Ck22] .n (valE (nmL ([a0] ++ ([] : List Int))) sk20.e) (valH (nmL ([a0] ++ ([] : List Int))) sk20.h)
    refine Fin.step (a := [.s Ck21]) (sem_fr 100000 99) (piece_ok (l := [a0]) Bodies.xc Bodies.tabOkO sk2p1 rfl trivial []) ?_
    show Fin (mkX Tryz.prog) (sem (mkX Tryz.prog) 100000 99) 100000 Tryz.f4.results.toList _ [.s Ck22] .n (valE (nmL ([a0] ++ ([] : List Int))) sk21.e) (valH (nmL ([a0] ++ ([] : List Int))) sk21.h)
    refine Fin.deep (a := []) (deep_seq Ck22 [] (by kernel_rfl)) ?_
    show Fin (mkX Tryz.prog) (sem (mkX Tryz.prog) 100000 99) 100000 Tryz.f4.results.toList _ [.s Ck23, .s Ck24] .n (valE (nmL ([a0] ++ ([] : List Int))) sk21.e) (valH (nmL ([a0] ++ ([] : List Int))) sk21.h)
    refine Fin.step (a := [.s Ck23]) (sem_fr 100000 99) (piece_ok (l := [a0]) Bodies.xc Bodies.tabOkO sk2p2 rfl trivial []) ?_
    show Fin (mkX Tryz.prog) (sem (mkX Tryz.prog) 100000 99) 100000 Tryz.f4.results.toList _ [.s Ck24] .n (valE (nmL ([a0] ++ ([] : List Int))) sk22.e) (valH (nmL ([a0] ++ ([] : List Int))) sk22.h)
    refine Fin.deep (a := []) (deep_seq Ck24 [] (by kernel_rfl)) ?_
    show Fin (mkX Tryz.prog) (sem (mkX Tryz.prog) 100000 99) 100000 Tryz.f4.results.toList _ [.s Ck25, .s Ck26] .n (valE (nmL ([a0] ++ ([] : List Int))) sk22.e) (valH (nmL ([a0] ++ ([] : List Int))) sk22.h)
    refine Fin.step (a := [.s Ck25]) (sem_fr 100000 99) (piece_ok (l := [a0]) Bodies.xc Bodies.tabOkO sk2p3 rfl trivial []) ?_
    show Fin (mkX Tryz.prog) (sem (mkX Tryz.prog) 100000 99) 100000 Tryz.f4.results.toList _ [.s Ck26] .n (valE (nmL ([a0] ++ ([] : List Int))) sk23.e) (valH (nmL ([a0] ++ ([] : List Int))) sk23.h)
    refine Fin.deep (a := []) (deep_seq Ck26 [] (by kernel_rfl)) ?_
    show Fin (mkX Tryz.prog) (sem (mkX Tryz.prog) 100000 99) 100000 Tryz.f4.results.toList _ [.s Ck27, .s Ck28] .n (valE (nmL ([a0] ++ ([] : List Int))) sk23.e) (valH (nmL ([a0] ++ ([] : List Int))) sk23.h)
    refine Fin.step (a := [.s Ck27]) (sem_fr 100000 99) (piece_ok (l := [a0]) Bodies.xc Bodies.tabOkO sk2p4 rfl trivial []) ?_
    show Fin (mkX Tryz.prog) (sem (mkX Tryz.prog) 100000 99) 100000 Tryz.f4.results.toList _ [.s Ck28] .n (valE (nmL ([a0] ++ ([] : List Int))) sk24.e) (valH (nmL ([a0] ++ ([] : List Int))) sk24.h)
    refine Fin.deep (a := []) (deep_seq Ck28 [] (by kernel_rfl)) ?_
    show Fin (mkX Tryz.prog) (sem (mkX Tryz.prog) 100000 99) 100000 Tryz.f4.results.toList _ [.s Ck29, .s Ck210] .n (valE (nmL ([a0] ++ ([] : List Int))) sk24.e) (valH (nmL ([a0] ++ ([] : List Int))) sk24.h)
    refine Fin.step (a := [.s Ck29]) (sem_fr 100000 99) (piece_ok (l := [a0]) Bodies.xc Bodies.tabOkO sk2p5 rfl trivial []) ?_
    show Fin (mkX Tryz.prog) (sem (mkX Tryz.prog) 100000 99) 100000 Tryz.f4.results.toList _ [.s Ck210] .n (valE (nmL ([a0] ++ ([] : List Int))) sk25.e) (valH (nmL ([a0] ++ ([] : List Int))) sk25.h)
    refine Fin.deep (a := []) (deep_seq Ck210 [] (by kernel_rfl)) ?_
    show Fin (mkX Tryz.prog) (sem (mkX Tryz.prog) 100000 99) 100000 Tryz.f4.results.toList _ [.s Ck211, .s Ck212] .n (valE (nmL ([a0] ++ ([] : List Int))) sk25.e) (valH (nmL ([a0] ++ ([] : List Int))) sk25.h)
    refine Fin.step (a := [.s Ck211]) (sem_fr 100000 99) (piece_ok (l := [a0]) Bodies.xc Bodies.tabOkO sk2p6 rfl trivial []) ?_
    show Fin (mkX Tryz.prog) (sem (mkX Tryz.prog) 100000 99) 100000 Tryz.f4.results.toList _ [.s Ck212] .n (valE (nmL ([a0] ++ ([] : List Int))) sk26.e) (valH (nmL ([a0] ++ ([] : List Int))) sk26.h)
    refine Fin.deep (a := []) (deep_seq Ck212 [] (by kernel_rfl)) ?_
    show Fin (mkX Tryz.prog) (sem (mkX Tryz.prog) 100000 99) 100000 Tryz.f4.results.toList _ [.s Ck213, .s Ck214] .n (valE (nmL ([a0] ++ ([] : List Int))) sk26.e) (valH (nmL ([a0] ++ ([] : List Int))) sk26.h)
    refine Fin.deep (a := []) (deep_seq Ck213 [.s Ck214] (by kernel_rfl)) ?_
    show Fin (mkX Tryz.prog) (sem (mkX Tryz.prog) 100000 99) 100000 Tryz.f4.results.toList _ [.s Ck215, .s Ck216, .s Ck214] .n (valE (nmL ([a0] ++ ([] : List Int))) sk26.e) (valH (nmL ([a0] ++ ([] : List Int))) sk26.h)
    exact Go.Am.Fin.last (sem_fr 100000 99) z1 z2 z3 (fun g _ => rfl)
  have := law_of_fin (n := 99) (args := [.i .i64 (.ofNat 2), nameV .i64 0]) (tb := []) (ρ := nmL ([a0] ++ ([] : List Int))) Tryz.func4 (by rw [lx]; kernel_rfl) (by kernel_rfl) F
  have hv : vals (nmL ([a0] ++ ([] : List Int))) [.i .i64 (.ofNat 2), nameV .i64 0] = [.i .i64 2, .i .i64 a0] := by
    simp only [vals, val, val_nameV]
    rfl
  rw [hv] at this
  exact this
theorem k3ran (a0 : Int) (l0 : (-9223372036854775808 : Int) ≤ a0) (u0 : a0 ≤ (9223372036854775807 : Int)) : ∃ h', sem (mkX Tryz.prog) 100000 100 4 [.i .i64 3, .i .i64 a0] ⟨16, lay []⟩ = some (.b true, h') := by
  obtain ⟨q', e', h', z1, z2, z3⟩ := endA_ok  lx Bodies.xc Bodies.tabOkO sk3pe (l := [a0]) (fits_cons l0 u0 fits_nil) trivial (σ := nmL ([a0] ++ ([] : List Int))) (fun i _ => by simp only [nmL, List.append_nil])
  have F : Fin (mkX Tryz.prog) (sem (mkX Tryz.prog) 100000 99) 100000 Tryz.f4.results.toList (fun v _ => v = .b true) [.s Ck30] .n (valE (nmL ([a0] ++ ([] : List Int))) sk30.e) (valH (nmL ([a0] ++ ([] : List Int))) sk30.h) := by
    refine Fin.deep (a := []) (deep_seq Ck30 [] (by kernel_rfl)) ?_
    show Fin (mkX Tryz.prog) (sem (mkX Tryz.prog) 100000 99) 100000 Tryz.f4.results.toList _ [.s Ck31, .s Ck32] .n (valE (nmL ([a0] ++ ([] : List Int))) sk30.e) (valH (nmL ([a0] ++ ([] : List Int))) sk30.h)
    refine Fin.step (a := [.s Ck31]) (sem_fr 100000 99) (piece_ok (l := [a0]) Bodies.xc Bodies.tabOkO sk3p1 rfl trivial []) ?_
    show Fin (mkX Tryz.prog) (sem (mkX Tryz.prog) 100000 99) 100000 Tryz.f4.results.toList _ [.s Ck32] .n (valE (nmL ([a0] ++ ([] : List Int))) sk31.e) (valH (nmL ([a0] ++ ([] : List Int))) sk31.h)
    refine Fin.deep (a := []) (deep_seq Ck32 [] (by kernel_rfl)) ?_
    show Fin (mkX Tryz.prog) (sem (mkX Tryz.prog) 100000 99) 100000 Tryz.f4.results.toList _ [.s Ck33, .s Ck34] .n (valE (nmL ([a0] ++ ([] : List Int))) sk31.e) (valH (nmL ([a0] ++ ([] : List Int))) sk31.h)
    refine Fin.step (a := [.s Ck33]) (sem_fr 100000 99) (piece_ok (l := [a0]) Bodies.xc Bodies.tabOkO sk3p2 rfl trivial []) ?_
    show Fin (mkX Tryz.prog) (sem (mkX Tryz.prog) 100000 99) 100000 Tryz.f4.results.toList _ [.s Ck34] .n (valE (nmL ([a0] ++ ([] : List Int))) sk32.e) (valH (nmL ([a0] ++ ([] : List Int))) sk32.h)
    refine Fin.deep (a := []) (deep_seq Ck34 [] (by kernel_rfl)) ?_
    show Fin (mkX Tryz.prog) (sem (mkX Tryz.prog) 100000 99) 100000 Tryz.f4.results.toList _ [.s Ck35, .s Ck36] .n (valE (nmL ([a0] ++ ([] : List Int))) sk32.e) (valH (nmL ([a0] ++ ([] : List Int))) sk32.h)
    refine Fin.step (a := [.s Ck35]) (sem_fr 100000 99) (piece_ok (l := [a0]) Bodies.xc Bodies.tabOkO sk3p3 rfl trivial []) ?_
    show Fin (mkX Tryz.prog) (sem (mkX Tryz.prog) 100000 99) 100000 Tryz.f4.results.toList _ [.s Ck36] .n (valE (nmL ([a0] ++ ([] : List Int))) sk33.e) (valH (nmL ([a0] ++ ([] : List Int))) sk33.h)
    refine Fin.deep (a := []) (deep_seq Ck36 [] (by kernel_rfl)) ?_
    show Fin (mkX Tryz.prog) (sem (mkX Tryz.prog) 100000 99) 100000 Tryz.f4.results.toList _ [.s Ck37, .s Ck38] .n (valE (nmL ([a0] ++ ([] : List Int))) sk33.e) (valH (nmL ([a0] ++ ([] : List Int))) sk33.h)
    refine Fin.step (a := [.s Ck37]) (sem_fr 100000 99) (piece_ok (l := [a0]) Bodies.xc Bodies.tabOkO sk3p4 rfl trivial []) ?_
    show Fin (mkX Tryz.prog) (sem (mkX Tryz.prog) 100000 99) 100000 Tryz.f4.results.toList _ [.s Ck38] .n (valE (nmL ([a0] ++ ([] : List Int))) sk34.e) (valH (nmL ([a0] ++ ([] : List Int))) sk34.h)
    refine Fin.deep (a := []) (deep_seq Ck38 [] (by kernel_rfl)) ?_
    show Fin (mkX Tryz.prog) (sem (mkX Tryz.prog) 100000 99) 100000 Tryz.f4.results.toList _ [.s Ck39, .s Ck310] .n (valE (nmL ([a0] ++ ([] : List Int))) sk34.e) (valH (nmL ([a0] ++ ([] : List Int))) sk34.h)
    refine Fin.step (a := [.s Ck39]) (sem_fr 100000 99) (piece_ok (l := [a0]) Bodies.xc Bodies.tabOkO sk3p5 rfl trivial []) ?_
    show Fin (mkX Tryz.prog) (sem (mkX Tryz.prog) 100000 99) 100000 Tryz.f4.results.toList _ [.s Ck310] .n (valE (nmL ([a0] ++ ([] : List Int))) sk35.e) (valH (nmL ([a0] ++ ([] : List Int))) sk35.h)
    refine Fin.deep (a := []) (deep_seq Ck310 [] (by kernel_rfl)) ?_
    show Fin (mkX Tryz.prog) (sem (mkX Tryz.prog) 100000 99) 100000 Tryz.f4.results.toList _ [.s Ck311, .s Ck312] .n (valE (nmL ([a0] ++ ([] : List Int))) sk35.e) (valH (nmL ([a0] ++ ([] : List Int))) sk35.h)
    refine Fin.step (a := [.s Ck311]) (sem_fr 100000 99) (piece_ok (l := [a0]) Bodies.xc Bodies.tabOkO sk3p6 rfl trivial []) ?_
    show Fin (mkX Tryz.prog) (sem (mkX Tryz.prog) 100000 99) 100000 Tryz.f4.results.toList _ [.s Ck312] .n (valE (nmL ([a0] ++ ([] : List Int))) sk36.e) (valH (nmL ([a0] ++ ([] : List Int))) sk36.h)
    refine Fin.deep (a := []) (deep_seq Ck312 [] (by kernel_rfl)) ?_
    show Fin (mkX Tryz.prog) (sem (mkX Tryz.prog) 100000 99) 100000 Tryz.f4.results.toList _ [.s Ck313, .s Ck314] .n (valE (nmL ([a0] ++ ([] : List Int))) sk36.e) (valH (nmL ([a0] ++ ([] : List Int))) sk36.h)
    refine Fin.deep (a := []) (deep_seq Ck313 [.s Ck314] (by kernel_rfl)) ?_
    show Fin (mkX Tryz.prog) (sem (mkX Tryz.prog) 100000 99) 100000 Tryz.f4.results.toList _ [.s Ck315, .s Ck316, .s Ck314] .n (valE (nmL ([a0] ++ ([] : List Int))) sk36.e) (valH (nmL ([a0] ++ ([] : List Int))) sk36.h)
    exact Go.Am.Fin.last (sem_fr 100000 99) z1 z2 z3 (fun g _ => rfl)
  have := law_of_fin (n := 99) (args := [.i .i64 (.ofNat 3), nameV .i64 0]) (tb := []) (ρ := nmL ([a0] ++ ([] : List Int))) Tryz.func4 (by rw [lx]; kernel_rfl) (by kernel_rfl) F
  have hv : vals (nmL ([a0] ++ ([] : List Int))) [.i .i64 (.ofNat 3), nameV .i64 0] = [.i .i64 3, .i .i64 a0] := by
    simp only [vals, val, val_nameV]
    rfl
  rw [hv] at this
  exact this
theorem k4ran (a0 : Int) (l0 : (-9223372036854775808 : Int) ≤ a0) (u0 : a0 ≤ (9223372036854775807 : Int)) : ∃ h', sem (mkX Tryz.prog) 100000 100 4 [.i .i64 4, .i .i64 a0] ⟨16, lay []⟩ = some (.b true, h') := by
  obtain ⟨q', e', h', z1, z2, z3⟩ := endA_ok  lx Bodies.xc Bodies.tabOkO sk4pe (l := [a0]) (fits_cons l0 u0 fits_nil) trivial (σ := nmL ([a0] ++ ([] : List Int))) (fun i _ => by simp only [nmL, List.append_nil])
  have F : Fin (mkX Tryz.prog) (sem (mkX Tryz.prog) 100000 99) 100000 Tryz.f4.results.toList (fun v _ => v = .b true) [.s Ck40] .n (valE (nmL ([a0] ++ ([] : List Int))) sk40.e) (valH (nmL ([a0] ++ ([] : List Int))) sk40.h) := by
    refine Fin.deep (a := []) (deep_seq Ck40 [] (by kernel_rfl)) ?_
    show Fin (mkX Tryz.prog) (sem (mkX Tryz.prog) 100000 99) 100000 Tryz.f4.results.toList _ [.s Ck41, .s Ck42] .n (valE (nmL ([a0] ++ ([] : List Int))) sk40.e) (valH (nmL ([a0] ++ ([] : List Int))) sk40.h)
    refine Fin.step (a := [.s Ck41]) (sem_fr 100000 99) (piece_ok (l := [a0]) Bodies.xc Bodies.tabOkO sk4p1 rfl trivial []) ?_
    show Fin (mkX Tryz.prog) (sem (mkX Tryz.prog) 100000 99) 100000 Tryz.f4.results.toList _ [.s Ck42] .n (valE (nmL ([a0] ++ ([] : List Int))) sk41.e) (valH (nmL ([a0] ++ ([] : List Int))) sk41.h)
    refine Fin.deep (a := []) (deep_seq Ck42 [] (by kernel_rfl)) ?_
    show Fin (mkX Tryz.prog) (sem (mkX Tryz.prog) 100000 99) 100000 Tryz.f4.results.toList _ [.s Ck43, .s Ck44] .n (valE (nmL ([a0] ++ ([] : List Int))) sk41.e) (valH (nmL ([a0] ++ ([] : List Int))) sk41.h)
    refine Fin.step (a := [.s Ck43]) (sem_fr 100000 99) (piece_ok (l := [a0]) Bodies.xc Bodies.tabOkO sk4p2 rfl trivial []) ?_
    show Fin (mkX Tryz.prog) (sem (mkX Tryz.prog) 100000 99) 100000 Tryz.f4.results.toList _ [.s Ck44] .n (valE (nmL ([a0] ++ ([] : List Int))) sk42.e) (valH (nmL ([a0] ++ ([] : List Int))) sk42.h)
    refine Fin.deep (a := []) (deep_seq Ck44 [] (by kernel_rfl)) ?_
    show Fin (mkX Tryz.prog) (sem (mkX Tryz.prog) 100000 99) 100000 Tryz.f4.results.toList _ [.s Ck45, .s Ck46] .n (valE (nmL ([a0] ++ ([] : List Int))) sk42.e) (valH (nmL ([a0] ++ ([] : List Int))) sk42.h)
    refine Fin.step (a := [.s Ck45]) (sem_fr 100000 99) (piece_ok (l := [a0]) Bodies.xc Bodies.tabOkO sk4p3 rfl trivial []) ?_
    show Fin (mkX Tryz.prog) (sem (mkX Tryz.prog) 100000 99) 100000 Tryz.f4.results.toList _ [.s Ck46] .n (valE (nmL ([a0] ++ ([] : List Int))) sk43.e) (valH (nmL ([a0] ++ ([] : List Int))) sk43.h)
    refine Fin.deep (a := []) (deep_seq Ck46 [] (by kernel_rfl)) ?_
    show Fin (mkX Tryz.prog) (sem (mkX Tryz.prog) 100000 99) 100000 Tryz.f4.results.toList _ [.s Ck47, .s Ck48] .n (valE (nmL ([a0] ++ ([] : List Int))) sk43.e) (valH (nmL ([a0] ++ ([] : List Int))) sk43.h)
    refine Fin.step (a := [.s Ck47]) (sem_fr 100000 99) (piece_ok (l := [a0]) Bodies.xc Bodies.tabOkO sk4p4 rfl trivial []) ?_
    show Fin (mkX Tryz.prog) (sem (mkX Tryz.prog) 100000 99) 100000 Tryz.f4.results.toList _ [.s Ck48] .n (valE (nmL ([a0] ++ ([] : List Int))) sk44.e) (valH (nmL ([a0] ++ ([] : List Int))) sk44.h)
    refine Fin.deep (a := []) (deep_seq Ck48 [] (by kernel_rfl)) ?_
    show Fin (mkX Tryz.prog) (sem (mkX Tryz.prog) 100000 99) 100000 Tryz.f4.results.toList _ [.s Ck49, .s Ck410] .n (valE (nmL ([a0] ++ ([] : List Int))) sk44.e) (valH (nmL ([a0] ++ ([] : List Int))) sk44.h)
    refine Fin.step (a := [.s Ck49]) (sem_fr 100000 99) (piece_ok (l := [a0]) Bodies.xc Bodies.tabOkO sk4p5 rfl trivial []) ?_
    show Fin (mkX Tryz.prog) (sem (mkX Tryz.prog) 100000 99) 100000 Tryz.f4.results.toList _ [.s Ck410] .n (valE (nmL ([a0] ++ ([] : List Int))) sk45.e) (valH (nmL ([a0] ++ ([] : List Int))) sk45.h)
    refine Fin.deep (a := []) (deep_seq Ck410 [] (by kernel_rfl)) ?_
    show Fin (mkX Tryz.prog) (sem (mkX Tryz.prog) 100000 99) 100000 Tryz.f4.results.toList _ [.s Ck411, .s Ck412] .n (valE (nmL ([a0] ++ ([] : List Int))) sk45.e) (valH (nmL ([a0] ++ ([] : List Int))) sk45.h)
    refine Fin.step (a := [.s Ck411]) (sem_fr 100000 99) (piece_ok (l := [a0]) Bodies.xc Bodies.tabOkO sk4p6 rfl trivial []) ?_
    show Fin (mkX Tryz.prog) (sem (mkX Tryz.prog) 100000 99) 100000 Tryz.f4.results.toList _ [.s Ck412] .n (valE (nmL ([a0] ++ ([] : List Int))) sk46.e) (valH (nmL ([a0] ++ ([] : List Int))) sk46.h)
    refine Fin.deep (a := []) (deep_seq Ck412 [] (by kernel_rfl)) ?_
    show Fin (mkX Tryz.prog) (sem (mkX Tryz.prog) 100000 99) 100000 Tryz.f4.results.toList _ [.s Ck413, .s Ck414] .n (valE (nmL ([a0] ++ ([] : List Int))) sk46.e) (valH (nmL ([a0] ++ ([] : List Int))) sk46.h)
    refine Fin.deep (a := []) (deep_seq Ck413 [.s Ck414] (by kernel_rfl)) ?_
    show Fin (mkX Tryz.prog) (sem (mkX Tryz.prog) 100000 99) 100000 Tryz.f4.results.toList _ [.s Ck415, .s Ck416, .s Ck414] .n (valE (nmL ([a0] ++ ([] : List Int))) sk46.e) (valH (nmL ([a0] ++ ([] : List Int))) sk46.h)
    exact Go.Am.Fin.last (sem_fr 100000 99) z1 z2 z3 (fun g _ => rfl)
  have := law_of_fin (n := 99) (args := [.i .i64 (.ofNat 4), nameV .i64 0]) (tb := []) (ρ := nmL ([a0] ++ ([] : List Int))) Tryz.func4 (by rw [lx]; kernel_rfl) (by kernel_rfl) F
  have hv : vals (nmL ([a0] ++ ([] : List Int))) [.i .i64 (.ofNat 4), nameV .i64 0] = [.i .i64 4, .i .i64 a0] := by
    simp only [vals, val, val_nameV]
    rfl
  rw [hv] at this
  exact this
theorem k5ran (a0 : Int) (l0 : (-9223372036854775808 : Int) ≤ a0) (u0 : a0 ≤ (9223372036854775807 : Int)) : ∃ h', sem (mkX Tryz.prog) 100000 100 4 [.i .i64 5, .i .i64 a0] ⟨16, lay []⟩ = some (.b true, h') := by
  obtain ⟨q', e', h', z1, z2, z3⟩ := endA_ok  lx Bodies.xc Bodies.tabOkO sk5pe (l := [a0]) (fits_cons l0 u0 fits_nil) trivial (σ := nmL ([a0] ++ ([] : List Int))) (fun i _ => by simp only [nmL, List.append_nil])
  have F : Fin (mkX Tryz.prog) (sem (mkX Tryz.prog) 100000 99) 100000 Tryz.f4.results.toList (fun v _ => v = .b true) [.s Ck50] .n (valE (nmL ([a0] ++ ([] : List Int))) sk50.e) (valH (nmL ([a0] ++ ([] : List Int))) sk50.h) := by
    refine Fin.deep (a := []) (deep_seq Ck50 [] (by kernel_rfl)) ?_
    show Fin (mkX Tryz.prog) (sem (mkX Tryz.prog) 100000 99) 100000 Tryz.f4.results.toList _ [.s Ck51, .s Ck52] .n (valE (nmL ([a0] ++ ([] : List Int))) sk50.e) (valH (nmL ([a0] ++ ([] : List Int))) sk50.h)
    refine Fin.step (a := [.s Ck51]) (sem_fr 100000 99) (piece_ok (l := [a0]) Bodies.xc Bodies.tabOkO sk5p1 rfl trivial []) ?_
    show Fin (mkX Tryz.prog) (sem (mkX Tryz.prog) 100000 99) 100000 Tryz.f4.results.toList _ [.s Ck52] .n (valE (nmL ([a0] ++ ([] : List Int))) sk51.e) (valH (nmL ([a0] ++ ([] : List Int))) sk51.h)
    refine Fin.deep (a := []) (deep_seq Ck52 [] (by kernel_rfl)) ?_
    show Fin (mkX Tryz.prog) (sem (mkX Tryz.prog) 100000 99) 100000 Tryz.f4.results.toList _ [.s Ck53, .s Ck54] .n (valE (nmL ([a0] ++ ([] : List Int))) sk51.e) (valH (nmL ([a0] ++ ([] : List Int))) sk51.h)
    refine Fin.step (a := [.s Ck53]) (sem_fr 100000 99) (piece_ok (l := [a0]) Bodies.xc Bodies.tabOkO sk5p2 rfl trivial []) ?_
    show Fin (mkX Tryz.prog) (sem (mkX Tryz.prog) 100000 99) 100000 Tryz.f4.results.toList _ [.s Ck54] .n (valE (nmL ([a0] ++ ([] : List Int))) sk52.e) (valH (nmL ([a0] ++ ([] : List Int))) sk52.h)
    refine Fin.deep (a := []) (deep_seq Ck54 [] (by kernel_rfl)) ?_
    show Fin (mkX Tryz.prog) (sem (mkX Tryz.prog) 100000 99) 100000 Tryz.f4.results.toList _ [.s Ck55, .s Ck56] .n (valE (nmL ([a0] ++ ([] : List Int))) sk52.e) (valH (nmL ([a0] ++ ([] : List Int))) sk52.h)
    refine Fin.step (a := [.s Ck55]) (sem_fr 100000 99) (piece_ok (l := [a0]) Bodies.xc Bodies.tabOkO sk5p3 rfl trivial []) ?_
    show Fin (mkX Tryz.prog) (sem (mkX Tryz.prog) 100000 99) 100000 Tryz.f4.results.toList _ [.s Ck56] .n (valE (nmL ([a0] ++ ([] : List Int))) sk53.e) (valH (nmL ([a0] ++ ([] : List Int))) sk53.h)
    refine Fin.deep (a := []) (deep_seq Ck56 [] (by kernel_rfl)) ?_
    show Fin (mkX Tryz.prog) (sem (mkX Tryz.prog) 100000 99) 100000 Tryz.f4.results.toList _ [.s Ck57, .s Ck58] .n (valE (nmL ([a0] ++ ([] : List Int))) sk53.e) (valH (nmL ([a0] ++ ([] : List Int))) sk53.h)
    refine Fin.step (a := [.s Ck57]) (sem_fr 100000 99) (piece_ok (l := [a0]) Bodies.xc Bodies.tabOkO sk5p4 rfl trivial []) ?_
    show Fin (mkX Tryz.prog) (sem (mkX Tryz.prog) 100000 99) 100000 Tryz.f4.results.toList _ [.s Ck58] .n (valE (nmL ([a0] ++ ([] : List Int))) sk54.e) (valH (nmL ([a0] ++ ([] : List Int))) sk54.h)
    refine Fin.deep (a := []) (deep_seq Ck58 [] (by kernel_rfl)) ?_
    show Fin (mkX Tryz.prog) (sem (mkX Tryz.prog) 100000 99) 100000 Tryz.f4.results.toList _ [.s Ck59, .s Ck510] .n (valE (nmL ([a0] ++ ([] : List Int))) sk54.e) (valH (nmL ([a0] ++ ([] : List Int))) sk54.h)
    refine Fin.step (a := [.s Ck59]) (sem_fr 100000 99) (piece_ok (l := [a0]) Bodies.xc Bodies.tabOkO sk5p5 rfl trivial []) ?_
    show Fin (mkX Tryz.prog) (sem (mkX Tryz.prog) 100000 99) 100000 Tryz.f4.results.toList _ [.s Ck510] .n (valE (nmL ([a0] ++ ([] : List Int))) sk55.e) (valH (nmL ([a0] ++ ([] : List Int))) sk55.h)
    refine Fin.deep (a := []) (deep_seq Ck510 [] (by kernel_rfl)) ?_
    show Fin (mkX Tryz.prog) (sem (mkX Tryz.prog) 100000 99) 100000 Tryz.f4.results.toList _ [.s Ck511, .s Ck512] .n (valE (nmL ([a0] ++ ([] : List Int))) sk55.e) (valH (nmL ([a0] ++ ([] : List Int))) sk55.h)
    refine Fin.step (a := [.s Ck511]) (sem_fr 100000 99) (piece_ok (l := [a0]) Bodies.xc Bodies.tabOkO sk5p6 rfl trivial []) ?_
    show Fin (mkX Tryz.prog) (sem (mkX Tryz.prog) 100000 99) 100000 Tryz.f4.results.toList _ [.s Ck512] .n (valE (nmL ([a0] ++ ([] : List Int))) sk56.e) (valH (nmL ([a0] ++ ([] : List Int))) sk56.h)
    refine Fin.deep (a := []) (deep_seq Ck512 [] (by kernel_rfl)) ?_
    show Fin (mkX Tryz.prog) (sem (mkX Tryz.prog) 100000 99) 100000 Tryz.f4.results.toList _ [.s Ck513, .s Ck514] .n (valE (nmL ([a0] ++ ([] : List Int))) sk56.e) (valH (nmL ([a0] ++ ([] : List Int))) sk56.h)
    refine Fin.deep (a := []) (deep_seq Ck513 [.s Ck514] (by kernel_rfl)) ?_
    show Fin (mkX Tryz.prog) (sem (mkX Tryz.prog) 100000 99) 100000 Tryz.f4.results.toList _ [.s Ck515, .s Ck516, .s Ck514] .n (valE (nmL ([a0] ++ ([] : List Int))) sk56.e) (valH (nmL ([a0] ++ ([] : List Int))) sk56.h)
    exact Go.Am.Fin.last (sem_fr 100000 99) z1 z2 z3 (fun g _ => rfl)
  have := law_of_fin (n := 99) (args := [.i .i64 (.ofNat 5), nameV .i64 0]) (tb := []) (ρ := nmL ([a0] ++ ([] : List Int))) Tryz.func4 (by rw [lx]; kernel_rfl) (by kernel_rfl) F
  have hv : vals (nmL ([a0] ++ ([] : List Int))) [.i .i64 (.ofNat 5), nameV .i64 0] = [.i .i64 5, .i .i64 a0] := by
    simp only [vals, val, val_nameV]
    rfl
  rw [hv] at this
  exact this
theorem k6ran (a0 : Int) (l0 : (-9223372036854775808 : Int) ≤ a0) (u0 : a0 ≤ (9223372036854775807 : Int)) : ∃ h', sem (mkX Tryz.prog) 100000 100 4 [.i .i64 6, .i .i64 a0] ⟨16, lay []⟩ = some (.b true, h') := by
  obtain ⟨q', e', h', z1, z2, z3⟩ := endA_ok  lx Bodies.xc Bodies.tabOkO sk6pe (l := [a0]) (fits_cons l0 u0 fits_nil) trivial (σ := nmL ([a0] ++ ([] : List Int))) (fun i _ => by simp only [nmL, List.append_nil])
  have F : Fin (mkX Tryz.prog) (sem (mkX Tryz.prog) 100000 99) 100000 Tryz.f4.results.toList (fun v _ => v = .b true) [.s Ck60] .n (valE (nmL ([a0] ++ ([] : List Int))) sk60.e) (valH (nmL ([a0] ++ ([] : List Int))) sk60.h) := by
    refine Fin.deep (a := []) (deep_seq Ck60 [] (by kernel_rfl)) ?_
    show Fin (mkX Tryz.prog) (sem (mkX Tryz.prog) 100000 99) 100000 Tryz.f4.results.toList _ [.s Ck61, .s Ck62] .n (valE (nmL ([a0] ++ ([] : List Int))) sk60.e) (valH (nmL ([a0] ++ ([] : List Int))) sk60.h)
    refine Fin.step (a := [.s Ck61]) (sem_fr 100000 99) (piece_ok (l := [a0]) Bodies.xc Bodies.tabOkO sk6p1 rfl trivial []) ?_
    show Fin (mkX Tryz.prog) (sem (mkX Tryz.prog) 100000 99) 100000 Tryz.f4.results.toList _ [.s Ck62] .n (valE (nmL ([a0] ++ ([] : List Int))) sk61.e) (valH (nmL ([a0] ++ ([] : List Int))) sk61.h)
    refine Fin.deep (a := []) (deep_seq Ck62 [] (by kernel_rfl)) ?_
    show Fin (mkX Tryz.prog) (sem (mkX Tryz.prog) 100000 99) 100000 Tryz.f4.results.toList _ [.s Ck63, .s Ck64] .n (valE (nmL ([a0] ++ ([] : List Int))) sk61.e) (valH (nmL ([a0] ++ ([] : List Int))) sk61.h)
    refine Fin.step (a := [.s Ck63]) (sem_fr 100000 99) (piece_ok (l := [a0]) Bodies.xc Bodies.tabOkO sk6p2 rfl trivial []) ?_
    show Fin (mkX Tryz.prog) (sem (mkX Tryz.prog) 100000 99) 100000 Tryz.f4.results.toList _ [.s Ck64] .n (valE (nmL ([a0] ++ ([] : List Int))) sk62.e) (valH (nmL ([a0] ++ ([] : List Int))) sk62.h)
    refine Fin.deep (a := []) (deep_seq Ck64 [] (by kernel_rfl)) ?_
    show Fin (mkX Tryz.prog) (sem (mkX Tryz.prog) 100000 99) 100000 Tryz.f4.results.toList _ [.s Ck65, .s Ck66] .n (valE (nmL ([a0] ++ ([] : List Int))) sk62.e) (valH (nmL ([a0] ++ ([] : List Int))) sk62.h)
    refine Fin.step (a := [.s Ck65]) (sem_fr 100000 99) (piece_ok (l := [a0]) Bodies.xc Bodies.tabOkO sk6p3 rfl trivial []) ?_
    show Fin (mkX Tryz.prog) (sem (mkX Tryz.prog) 100000 99) 100000 Tryz.f4.results.toList _ [.s Ck66] .n (valE (nmL ([a0] ++ ([] : List Int))) sk63.e) (valH (nmL ([a0] ++ ([] : List Int))) sk63.h)
    refine Fin.deep (a := []) (deep_seq Ck66 [] (by kernel_rfl)) ?_
    show Fin (mkX Tryz.prog) (sem (mkX Tryz.prog) 100000 99) 100000 Tryz.f4.results.toList _ [.s Ck67, .s Ck68] .n (valE (nmL ([a0] ++ ([] : List Int))) sk63.e) (valH (nmL ([a0] ++ ([] : List Int))) sk63.h)
    refine Fin.step (a := [.s Ck67]) (sem_fr 100000 99) (piece_ok (l := [a0]) Bodies.xc Bodies.tabOkO sk6p4 rfl trivial []) ?_
    show Fin (mkX Tryz.prog) (sem (mkX Tryz.prog) 100000 99) 100000 Tryz.f4.results.toList _ [.s Ck68] .n (valE (nmL ([a0] ++ ([] : List Int))) sk64.e) (valH (nmL ([a0] ++ ([] : List Int))) sk64.h)
    refine Fin.deep (a := []) (deep_seq Ck68 [] (by kernel_rfl)) ?_
    show Fin (mkX Tryz.prog) (sem (mkX Tryz.prog) 100000 99) 100000 Tryz.f4.results.toList _ [.s Ck69, .s Ck610] .n (valE (nmL ([a0] ++ ([] : List Int))) sk64.e) (valH (nmL ([a0] ++ ([] : List Int))) sk64.h)
    refine Fin.step (a := [.s Ck69]) (sem_fr 100000 99) (piece_ok (l := [a0]) Bodies.xc Bodies.tabOkO sk6p5 rfl trivial []) ?_
    show Fin (mkX Tryz.prog) (sem (mkX Tryz.prog) 100000 99) 100000 Tryz.f4.results.toList _ [.s Ck610] .n (valE (nmL ([a0] ++ ([] : List Int))) sk65.e) (valH (nmL ([a0] ++ ([] : List Int))) sk65.h)
    refine Fin.deep (a := []) (deep_seq Ck610 [] (by kernel_rfl)) ?_
    show Fin (mkX Tryz.prog) (sem (mkX Tryz.prog) 100000 99) 100000 Tryz.f4.results.toList _ [.s Ck611, .s Ck612] .n (valE (nmL ([a0] ++ ([] : List Int))) sk65.e) (valH (nmL ([a0] ++ ([] : List Int))) sk65.h)
    refine Fin.step (a := [.s Ck611]) (sem_fr 100000 99) (piece_ok (l := [a0]) Bodies.xc Bodies.tabOkO sk6p6 rfl trivial []) ?_
    show Fin (mkX Tryz.prog) (sem (mkX Tryz.prog) 100000 99) 100000 Tryz.f4.results.toList _ [.s Ck612] .n (valE (nmL ([a0] ++ ([] : List Int))) sk66.e) (valH (nmL ([a0] ++ ([] : List Int))) sk66.h)
    refine Fin.deep (a := []) (deep_seq Ck612 [] (by kernel_rfl)) ?_
    show Fin (mkX Tryz.prog) (sem (mkX Tryz.prog) 100000 99) 100000 Tryz.f4.results.toList _ [.s Ck613, .s Ck614] .n (valE (nmL ([a0] ++ ([] : List Int))) sk66.e) (valH (nmL ([a0] ++ ([] : List Int))) sk66.h)
    refine Fin.deep (a := []) (deep_seq Ck613 [.s Ck614] (by kernel_rfl)) ?_
    show Fin (mkX Tryz.prog) (sem (mkX Tryz.prog) 100000 99) 100000 Tryz.f4.results.toList _ [.s Ck615, .s Ck616, .s Ck614] .n (valE (nmL ([a0] ++ ([] : List Int))) sk66.e) (valH (nmL ([a0] ++ ([] : List Int))) sk66.h)
    exact Go.Am.Fin.last (sem_fr 100000 99) z1 z2 z3 (fun g _ => rfl)
  have := law_of_fin (n := 99) (args := [.i .i64 (.ofNat 6), nameV .i64 0]) (tb := []) (ρ := nmL ([a0] ++ ([] : List Int))) Tryz.func4 (by rw [lx]; kernel_rfl) (by kernel_rfl) F
  have hv : vals (nmL ([a0] ++ ([] : List Int))) [.i .i64 (.ofNat 6), nameV .i64 0] = [.i .i64 6, .i .i64 a0] := by
    simp only [vals, val, val_nameV]
    rfl
  rw [hv] at this
  exact this
theorem k7ran (a0 : Int) (l0 : (-9223372036854775808 : Int) ≤ a0) (u0 : a0 ≤ (9223372036854775807 : Int)) : ∃ h', sem (mkX Tryz.prog) 100000 100 4 [.i .i64 7, .i .i64 a0] ⟨16, lay []⟩ = some (.b true, h') := by
  obtain ⟨q', e', h', z1, z2, z3⟩ := endA_ok  lx Bodies.xc Bodies.tabOkO sk7pe (l := [a0]) (fits_cons l0 u0 fits_nil) trivial (σ := nmL ([a0] ++ ([] : List Int))) (fun i _ => by simp only [nmL, List.append_nil])
  have F : Fin (mkX Tryz.prog) (sem (mkX Tryz.prog) 100000 99) 100000 Tryz.f4.results.toList (fun v _ => v = .b true) [.s Ck70] .n (valE (nmL ([a0] ++ ([] : List Int))) sk70.e) (valH (nmL ([a0] ++ ([] : List Int))) sk70.h) := by
    refine Fin.deep (a := []) (deep_seq Ck70 [] (by kernel_rfl)) ?_
    show Fin (mkX Tryz.prog) (sem (mkX Tryz.prog) 100000 99) 100000 Tryz.f4.results.toList _ [.s Ck71, .s Ck72] .n (valE (nmL ([a0] ++ ([] : List Int))) sk70.e) (valH (nmL ([a0] ++ ([] : List Int))) sk70.h)
    refine Fin.step (a := [.s Ck71]) (sem_fr 100000 99) (piece_ok (l := [a0]) Bodies.xc Bodies.tabOkO sk7p1 rfl trivial []) ?_
    show Fin (mkX Tryz.prog) (sem (mkX Tryz.prog) 100000 99) 100000 Tryz.f4.results.toList _ [.s Ck72] .n (valE (nmL ([a0] ++ ([] : List Int))) sk71.e) (valH (nmL ([a0] ++ ([] : List Int))) sk71.h)
    refine Fin.deep (a := []) (deep_seq Ck72 [] (by kernel_rfl)) ?_
    show Fin (mkX Tryz.prog) (sem (mkX Tryz.prog) 100000 99) 100000 Tryz.f4.results.toList _ [.s Ck73, .s Ck74] .n (valE (nmL ([a0] ++ ([] : List Int))) sk71.e) (valH (nmL ([a0] ++ ([] : List Int))) sk71.h)
    refine Fin.step (a := [.s Ck73]) (sem_fr 100000 99) (piece_ok (l := [a0]) Bodies.xc Bodies.tabOkO sk7p2 rfl trivial []) ?_
    show Fin (mkX Tryz.prog) (sem (mkX Tryz.prog) 100000 99) 100000 Tryz.f4.results.toList _ [.s Ck74] .n (valE (nmL ([a0] ++ ([] : List Int))) sk72.e) (valH (nmL ([a0] ++ ([] : List Int))) sk72.h)
    refine Fin.deep (a := []) (deep_seq Ck74 [] (by kernel_rfl)) ?_
    show Fin (mkX Tryz.prog) (sem (mkX Tryz.prog) 100000 99) 100000 Tryz.f4.results.toList _ [.s Ck75, .s Ck76] .n (valE (nmL ([a0] ++ ([] : List Int))) sk72.e) (valH (nmL ([a0] ++ ([] : List Int))) sk72.h)
    refine Fin.step (a := [.s Ck75]) (sem_fr 100000 99) (piece_ok (l := [a0]) Bodies.xc Bodies.tabOkO sk7p3 rfl trivial []) ?_
    show Fin (mkX Tryz.prog) (sem (mkX Tryz.prog) 100000 99) 100000 Tryz.f4.results.toList _ [.s Ck76] .n (valE (nmL ([a0] ++ ([] : List Int))) sk73.e) (valH (nmL ([a0] ++ ([] : List Int))) sk73.h)
    refine Fin.deep (a := []) (deep_seq Ck76 [] (by kernel_rfl)) ?_
    show Fin (mkX Tryz.prog) (sem (mkX Tryz.prog) 100000 99) 100000 Tryz.f4.results.toList _ [.s Ck77, .s Ck78] .n (valE (nmL ([a0] ++ ([] : List Int))) sk73.e) (valH (nmL ([a0] ++ ([] : List Int))) sk73.h)
    refine Fin.step (a := [.s Ck77]) (sem_fr 100000 99) (piece_ok (l := [a0]) Bodies.xc Bodies.tabOkO sk7p4 rfl trivial []) ?_
    show Fin (mkX Tryz.prog) (sem (mkX Tryz.prog) 100000 99) 100000 Tryz.f4.results.toList _ [.s Ck78] .n (valE (nmL ([a0] ++ ([] : List Int))) sk74.e) (valH (nmL ([a0] ++ ([] : List Int))) sk74.h)
    refine Fin.deep (a := []) (deep_seq Ck78 [] (by kernel_rfl)) ?_
    show Fin (mkX Tryz.prog) (sem (mkX Tryz.prog) 100000 99) 100000 Tryz.f4.results.toList _ [.s Ck79, .s Ck710] .n (valE (nmL ([a0] ++ ([] : List Int))) sk74.e) (valH (nmL ([a0] ++ ([] : List Int))) sk74.h)
    refine Fin.step (a := [.s Ck79]) (sem_fr 100000 99) (piece_ok (l := [a0]) Bodies.xc Bodies.tabOkO sk7p5 rfl trivial []) ?_
    show Fin (mkX Tryz.prog) (sem (mkX Tryz.prog) 100000 99) 100000 Tryz.f4.results.toList _ [.s Ck710] .n (valE (nmL ([a0] ++ ([] : List Int))) sk75.e) (valH (nmL ([a0] ++ ([] : List Int))) sk75.h)
    refine Fin.deep (a := []) (deep_seq Ck710 [] (by kernel_rfl)) ?_
    show Fin (mkX Tryz.prog) (sem (mkX Tryz.prog) 100000 99) 100000 Tryz.f4.results.toList _ [.s Ck711, .s Ck712] .n (valE (nmL ([a0] ++ ([] : List Int))) sk75.e) (valH (nmL ([a0] ++ ([] : List Int))) sk75.h)
    refine Fin.step (a := [.s Ck711]) (sem_fr 100000 99) (piece_ok (l := [a0]) Bodies.xc Bodies.tabOkO sk7p6 rfl trivial []) ?_
    show Fin (mkX Tryz.prog) (sem (mkX Tryz.prog) 100000 99) 100000 Tryz.f4.results.toList _ [.s Ck712] .n (valE (nmL ([a0] ++ ([] : List Int))) sk76.e) (valH (nmL ([a0] ++ ([] : List Int))) sk76.h)
    refine Fin.deep (a := []) (deep_seq Ck712 [] (by kernel_rfl)) ?_
    show Fin (mkX Tryz.prog) (sem (mkX Tryz.prog) 100000 99) 100000 Tryz.f4.results.toList _ [.s Ck713, .s Ck714] .n (valE (nmL ([a0] ++ ([] : List Int))) sk76.e) (valH (nmL ([a0] ++ ([] : List Int))) sk76.h)
    refine Fin.deep (a := []) (deep_seq Ck713 [.s Ck714] (by kernel_rfl)) ?_
    show Fin (mkX Tryz.prog) (sem (mkX Tryz.prog) 100000 99) 100000 Tryz.f4.results.toList _ [.s Ck715, .s Ck716, .s Ck714] .n (valE (nmL ([a0] ++ ([] : List Int))) sk76.e) (valH (nmL ([a0] ++ ([] : List Int))) sk76.h)
    exact Go.Am.Fin.last (sem_fr 100000 99) z1 z2 z3 (fun g _ => rfl)
  have := law_of_fin (n := 99) (args := [.i .i64 (.ofNat 7), nameV .i64 0]) (tb := []) (ρ := nmL ([a0] ++ ([] : List Int))) Tryz.func4 (by rw [lx]; kernel_rfl) (by kernel_rfl) F
  have hv : vals (nmL ([a0] ++ ([] : List Int))) [.i .i64 (.ofNat 7), nameV .i64 0] = [.i .i64 7, .i .i64 a0] := by
    simp only [vals, val, val_nameV]
    rfl
  rw [hv] at this
  exact this
theorem oran (a0 a1 : Int) (l0 : (-9223372036854775808 : Int) ≤ a0) (u0 : a0 ≤ (9223372036854775807 : Int)) (l1 : (-9223372036854775808 : Int) ≤ a1) (u1 : a1 ≤ (9223372036854775807 : Int)) (x0 : a0 < 0 ∨ 8 ≤ a0) : ∃ h', sem (mkX Tryz.prog) 100000 100 4 [.i .i64 a0, .i .i64 a1] ⟨16, lay []⟩ = some (.b true, h') := by
  obtain ⟨kk, q', e', h', z1, z2, z3⟩ := end_ok (l := [a0, a1]) Bodies.xc Bodies.tabOkO sope ofits (oall a0 a1 l0 u0 l1 u1 x0)
  have F : Fin (mkX Tryz.prog) (sem (mkX Tryz.prog) 100000 99) 100000 Tryz.f4.results.toList (fun v _ => v = .b true) [.s Co0] .n (valE (nmL ([a0, a1] ++ kk)) so0.e) (valH (nmL ([a0, a1] ++ kk)) so0.h) := by
    refine Fin.deep (a := []) (deep_seq Co0 [] (by kernel_rfl)) ?_
    show Fin (mkX Tryz.prog) (sem (mkX Tryz.prog) 100000 99) 100000 Tryz.f4.results.toList _ [.s Co1, .s Co2] .n (valE (nmL ([a0, a1] ++ kk)) so0.e) (valH (nmL ([a0, a1] ++ kk)) so0.h)
    refine Fin.step (a := [.s Co1]) (sem_fr 100000 99) (piece_ok (l := [a0, a1]) Bodies.xc Bodies.tabOkO sop1 rfl trivial kk) ?_
    show Fin (mkX Tryz.prog) (sem (mkX Tryz.prog) 100000 99) 100000 Tryz.f4.results.toList _ [.s Co2] .n (valE (nmL ([a0, a1] ++ kk)) so1.e) (valH (nmL ([a0, a1] ++ kk)) so1.h)
    refine Fin.deep (a := []) (deep_seq Co2 [] (by kernel_rfl)) ?_
    show Fin (mkX Tryz.prog) (sem (mkX Tryz.prog) 100000 99) 100000 Tryz.f4.results.toList _ [.s Co3, .s Co4] .n (valE (nmL ([a0, a1] ++ kk)) so1.e) (valH (nmL ([a0, a1] ++ kk)) so1.h)
    refine Fin.step (a := [.s Co3]) (sem_fr 100000 99) (piece_ok (l := [a0, a1]) Bodies.xc Bodies.tabOkO sop2 rfl trivial kk) ?_
    show Fin (mkX Tryz.prog) (sem (mkX Tryz.prog) 100000 99) 100000 Tryz.f4.results.toList _ [.s Co4] .n (valE (nmL ([a0, a1] ++ kk)) so2.e) (valH (nmL ([a0, a1] ++ kk)) so2.h)
    refine Fin.deep (a := []) (deep_seq Co4 [] (by kernel_rfl)) ?_
    show Fin (mkX Tryz.prog) (sem (mkX Tryz.prog) 100000 99) 100000 Tryz.f4.results.toList _ [.s Co5, .s Co6] .n (valE (nmL ([a0, a1] ++ kk)) so2.e) (valH (nmL ([a0, a1] ++ kk)) so2.h)
    refine Fin.step (a := [.s Co5]) (sem_fr 100000 99) (piece_ok (l := [a0, a1]) Bodies.xc Bodies.tabOkO sop3 rfl trivial kk) ?_
    show Fin (mkX Tryz.prog) (sem (mkX Tryz.prog) 100000 99) 100000 Tryz.f4.results.toList _ [.s Co6] .n (valE (nmL ([a0, a1] ++ kk)) so3.e) (valH (nmL ([a0, a1] ++ kk)) so3.h)
    refine Fin.deep (a := []) (deep_seq Co6 [] (by kernel_rfl)) ?_
    show Fin (mkX Tryz.prog) (sem (mkX Tryz.prog) 100000 99) 100000 Tryz.f4.results.toList _ [.s Co7, .s Co8] .n (valE (nmL ([a0, a1] ++ kk)) so3.e) (valH (nmL ([a0, a1] ++ kk)) so3.h)
    refine Fin.deep (a := []) (deep_seq Co7 [.s Co8] (by kernel_rfl)) ?_
    show Fin (mkX Tryz.prog) (sem (mkX Tryz.prog) 100000 99) 100000 Tryz.f4.results.toList _ [.s Co9, .s Co10, .s Co8] .n (valE (nmL ([a0, a1] ++ kk)) so3.e) (valH (nmL ([a0, a1] ++ kk)) so3.h)
    exact Go.Am.Fin.last (sem_fr 100000 99) z1 z2 z3 (fun g _ => rfl)
  have := law_of_fin (n := 99) (args := [nameV .i64 0, nameV .i64 1]) (tb := []) (ρ := nmL ([a0, a1] ++ kk)) Tryz.func4 (by rw [lx]; kernel_rfl) (by kernel_rfl) F
  have hv : vals (nmL ([a0, a1] ++ kk)) [nameV .i64 0, nameV .i64 1] = [.i .i64 a0, .i .i64 a1] := by
    simp only [vals, val, val_nameV]
    rfl
  rw [hv] at this
  exact this
end Go.Proofs.YtcebbmappnbegaaGreatDoor.scriptForms
