/- Signs read by the parser. -/
import Derived.Test.YtbkhielalbbopaaGreatDoorZp5
set_option linter.unusedSimpArgs false
set_option linter.unusedVariables false
set_option linter.unusedSectionVars false
set_option linter.unnecessarySimpa false
set_option maxRecDepth 100000
namespace Go.Proofs.YtbkhielalbbopaaGreatDoor.Wb
open Go Go.Am Go.Am.Xm

def badT (t : Bs) : Bool := (unE t).isNone || decide (0 ≤ Lib.indexByte t 60)
def outT (t : Bs) : Bs := (unE t).getD []

theorem text_ok {n : Nat} (hn : 10 ≤ n) {r : Nat} {s t : Bs} {bad : Bool} {d : Int} {h : H} {K : V → H → Prop} (P : Prs h r s bad d) (hr : r < h.next) (L : Low h) (hl : t.length < 100000)
    (k : ∀ h', Prs h' r s (bad || badT t) d → But h h' (some r) → K (.s (outT t)) h') : Ok Tryz.prog n 81 [.p r 0, .s t] h K := by
  obtain ⟨n, rfl⟩ := Nat.exists_eq_add_of_le' hn
  obtain ⟨ty, P⟩ := P
  refine Ok.bd (K81 fun hbd => ?_)
  unfold F81
  simp only [cf_k, c81]
  refine un_ok (by omega) L hl fun h1 f1 => ?_
  have P1 := f1.get hr (by simp) P
  have fin : ∀ {h2 : H} {b : Bool}, h2.mem.get r = some (.c [.s s, .b b, .i .i64 d] ty true) → But h1 h2 (some r) → b = (bad || badT t) → F81_11 pw (mkX Tryz.prog) (Ok Tryz.prog (n + 9)) (fun v h => Bd h → K v h) (.s (outT t)) h2 := by
    intro h2 b hg f hb
    unfold F81_11
    subst hb
    exact fun _ => k h2 ⟨ty, hg⟩ ((f1.none (some r)).trans f)
  have setb : badT t = true → pw.s1 (.p r 1) (.b true) h1 fun h26 => F81_11 pw (mkX Tryz.prog) (Ok Tryz.prog (n + 9)) (fun v h => Bd h → K v h) (.s (outT t)) h26 := by
    intro hb
    refine s1_a P1 (by simp) rfl fun h2 hg f => ?_
    exact fin hg f (by rw [hb, Bool.or_true])
  cases hu : unE t with
  | none =>
    have e1 : outT t = [] := by rw [outT, hu]; rfl
    have e2 : badT t = true := by rw [badT, hu]; rfl
    have := setb e2
    rw [e1] at this
    simp only [ex_t, List.getElem?_cons_zero, List.getElem?_cons_succ, oP_some, nt_b, Bool.not_false, g0_t, pk_t, cd_t, nl_p, fa_p, Nat.zero_add]
    exact this
  | some o =>
    have e1 : outT t = o := by rw [outT, hu]; rfl
    have e2 : badT t = decide (0 ≤ Lib.indexByte t 60) := by rw [badT, hu]; rfl
    rw [e1] at fin setb
    simp only [ex_t, List.getElem?_cons_zero, List.getElem?_cons_succ, oP_some, nt_b, Bool.not_true, g0_f]
    refine con1_ok (l := t) (by omega) ?_
    simp only [pk_f]
    cases hb : decide (0 ≤ Lib.indexByte t 60) with
    | true =>
      simp only [cd_t, nl_p, fa_p, Nat.zero_add]
      exact setb (by rw [e2, hb])
    | false =>
      simp only [cd_f]
      exact fin P1 (But.refl _ _) (by rw [e2, hb, Bool.or_false])
end Go.Proofs.YtbkhielalbbopaaGreatDoor.Wb
