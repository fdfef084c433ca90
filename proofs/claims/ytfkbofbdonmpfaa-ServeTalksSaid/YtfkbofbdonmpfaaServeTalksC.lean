/- ServeTalks: its run, whatever its numbers are. -/
import Derived.Test.YtfkbofbdonmpfaaServeTalksB
set_option linter.unusedSimpArgs false
set_option linter.unusedVariables false
set_option linter.unusedSectionVars false
set_option linter.unnecessarySimpa false
set_option maxRecDepth 100000
namespace Go.Proofs.Ytfkbofbdonmpfaa.serveTalks
open Go.Am
def TO : Pt := .fork (.lt (.v 0) (.c 0)) .done (.fork (.lt (.c 50) (.v 0)) .done (.fork (.lt (.v 1) (.c 0)) .done (.yes (.lt (.c 10000) (.v 1)) .done)))
theorem eO : runE Try.prog Bodies.tab 99 Try.f22.results.toList [.s C0] st0 2 TO.orc = TO.tr 2 := by kernel_rfl
theorem ranO (a b : Int) (h : ¬ (0 ≤ a ∧ a ≤ 50 ∧ 0 ≤ b ∧ b ≤ 10000)) : ∃ h', sem (mkX Try.prog) 100000 100 22 [.i .i64 a, .i .i64 b] ⟨16, lay []⟩ = some (.b true, h') := by
  obtain ⟨kk, q', e', h', z1, z2, z3⟩ := end_ok (l := [a, b]) Bodies.xc Bodies.tabOk eO rfl (Pt.h_fork (fun (_ : a < (0 : Int)) => Pt.h_done) (fun (_ : ¬ a < (0 : Int)) => Pt.h_fork (fun (_ : (50 : Int) < a) => Pt.h_done) (fun (_ : ¬ (50 : Int) < a) => Pt.h_fork (fun (_ : b < (0 : Int)) => Pt.h_done) (fun (_ : ¬ b < (0 : Int)) => Pt.h_yes (show (10000 : Int) < b by omega) Pt.h_done))))
  have F : FF a b kk [.s C0] st0 := Go.Am.Fin.last (sem_fr 100000 99) z1 z2 z3 (fun g _ => rfl)
  have := law_of_fin (n := 99) (args := [nameV .i64 0, nameV .i64 1]) (tb := []) (ρ := nmL ([a, b] ++ kk)) Try.func22 (by kernel_rfl) (by kernel_rfl) F
  have hv : vals (nmL ([a, b] ++ kk)) [nameV .i64 0, nameV .i64 1] = [.i .i64 a, .i .i64 b] := by
    simp only [vals, val_nameV]
    rfl
  rw [hv] at this
  exact this
theorem ranA (a b : Int) : ∃ h', sem (mkX Try.prog) 100000 100 22 [.i .i64 a, .i .i64 b] ⟨16, .l⟩ = some (.b true, h') := by
  by_cases h : 0 ≤ a ∧ a ≤ 50 ∧ 0 ≤ b ∧ b ≤ 10000
  · exact ran a b h.1 h.2.1 h.2.2.1 h.2.2.2
  · exact ranO a b h
end Go.Proofs.Ytfkbofbdonmpfaa.serveTalks
