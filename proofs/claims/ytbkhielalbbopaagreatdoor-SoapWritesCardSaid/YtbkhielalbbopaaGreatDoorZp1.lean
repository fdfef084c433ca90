/- The parser: what is left, is it bad, the deepest; what stands there is taken. -/
import Derived.Test.YtbkhielalbbopaaGreatDoorZs8
import Derived.Test.YtbkhielalbbopaaGreatDoorUz0
set_option linter.unusedSimpArgs false
set_option linter.unusedVariables false
set_option linter.unusedSectionVars false
set_option linter.unnecessarySimpa false
set_option maxRecDepth 100000
namespace Go.Proofs.YtbkhielalbbopaaGreatDoor.Wb
open Go Go.Am Go.Am.Xm

/-- A parser at block r. -/
def Prs (h : H) (r : Nat) (s : Bs) (bad : Bool) (d : Int) : Prop := ∃ ty, h.mem.get r = some (.c [.s s, .b bad, .i .i64 d] ty true)

theorem take_ok {n : Nat} (hn : 4 ≤ n) {r : Nat} {s t : Bs} {bad : Bool} {d : Int} {h : H} {K : V → H → Prop} (P : Prs h r s bad d)
    (k : ∀ h', Prs h' r (if hasP t s = true ∧ bad = false then s.drop t.length else s) bad d → But h h' (some r) → K (.b (hasP t s && !bad)) h') : Ok Tryz.prog n 76 [.p r 0, .s t] h K := by
  obtain ⟨n, rfl⟩ := Nat.exists_eq_add_of_le' hn
  obtain ⟨ty, P⟩ := P
  refine Ok.bd (K76 fun hbd => ?_)
  unfold F76
  simp (disch := omega) only [ws, Nat.zero_add]
  rw [l1_a P rfl]
  refine cutp_ok (by omega) ?_
  cases ht : hasP t s with
  | false =>
    rw [ht] at k
    simp only [Bool.false_eq_true, if_false, false_and, Bool.false_and] at k ⊢
    simp only [ex_t, List.getElem?_cons_zero, List.getElem?_cons_succ, oP_some, g1_f, pk_f, cd_f, F76_15]
    exact fun _ => k h ⟨ty, P⟩ (But.refl _ _)
  | true =>
    rw [ht] at k
    simp only [if_true, true_and, Bool.true_and] at k ⊢
    simp only [ex_t, List.getElem?_cons_zero, List.getElem?_cons_succ, oP_some, g1_t, nl_p, fa_p, Nat.zero_add]
    rw [l1_a P rfl]
    simp only [nt_b, pk_t]
    cases bad with
    | true =>
      simp only [Bool.not_true, cd_f, F76_15, Bool.true_eq_false, if_false] at k ⊢
      exact fun _ => k h ⟨ty, P⟩ (But.refl _ _)
    | false =>
      simp only [Bool.not_false, cd_t, if_true] at k ⊢
      refine s1_a P (by simp) rfl fun h1 hg f => ?_
      exact fun _ => k h1 ⟨ty, hg⟩ f

theorem want_ok {n : Nat} (hn : 5 ≤ n) {r : Nat} {s t : Bs} {bad : Bool} {d : Int} {h : H} {K : V → H → Prop} (P : Prs h r s bad d)
    (k : ∀ h', Prs h' r (if hasP t s = true ∧ bad = false then s.drop t.length else s) (bad || !hasP t s) d → But h h' (some r) → K (.t []) h') : Ok Tryz.prog n 40 [.p r 0, .s t] h K := by
  obtain ⟨n, rfl⟩ := Nat.exists_eq_add_of_le' hn
  refine Ok.bd (K40 fun hbd => ?_)
  unfold F40
  rw [cf_k]
  refine take_ok (by omega) P fun h1 P1 f1 => ?_
  cases ht : hasP t s with
  | true =>
    rw [ht] at k P1
    simp only [Bool.true_and, nt_b, Bool.not_not, Bool.not_true, Bool.or_false, true_and] at k P1 ⊢
    cases bad with
    | true =>
      simp only [Bool.true_eq_false, if_false, cd_t] at k P1 ⊢
      obtain ⟨ty, P1⟩ := P1
      simp only [nl_p, fa_p, Nat.zero_add]
      refine s1_a P1 (by simp) rfl fun h2 hg f => ?_
      exact fun _ => k h2 ⟨ty, hg⟩ (f1.trans f)
    | false =>
      simp only [cd_f, if_true] at k P1 ⊢
      exact fun _ => k h1 P1 f1
  | false =>
    rw [ht] at k P1
    simp only [Bool.false_and, nt_b, Bool.not_false, Bool.or_true, Bool.false_eq_true, false_and, if_false, cd_t] at k P1 ⊢
    obtain ⟨ty, P1⟩ := P1
    simp only [nl_p, fa_p, Nat.zero_add]
    refine s1_a P1 (by simp) rfl fun h2 hg f => ?_
    exact fun _ => k h2 ⟨ty, hg⟩ (f1.trans f)
end Go.Proofs.YtbkhielalbbopaaGreatDoor.Wb
