/- Blanks: what stands behind the bytes of a set; a name. -/
import Derived.Test.YtbkhielalbbopaaGreatDoorZp3
set_option linter.unusedSimpArgs false
set_option linter.unusedVariables false
set_option linter.unusedSectionVars false
set_option linter.unnecessarySimpa false
set_option maxRecDepth 100000
namespace Go.Proofs.YtbkhielalbbopaaGreatDoor.Wb
open Go Go.Am Go.Am.Xm

theorem trim_ok {n : Nat} (hn : 3 ≤ n) {cs l : Bs} (h2 : 2 ≤ cs.length) (hc : cs.length < 50000) (ha : ∀ c ∈ cs, c.toNat < 128) (hl : l.length < 50000) {h : H} {K : V → H → Prop}
    (k : ∀ h', But h h' none → K (.s (trimS cs l)) h') : Ok Tryz.prog n 82 [.s l, .s cs] h K := by
  obtain ⟨n, rfl⟩ := Nat.exists_eq_add_of_le' hn
  refine Ok.bd (K82 fun hbd => ?_)
  unfold F82
  rw [eq_s]
  by_cases h0 : l = []
  · subst h0
    simp only [beq_self_eq_true, g0_t, pk_t, cd_t]
    exact fun _ => k h (But.refl _ _)
  · rw [show (l == []) = false by simpa using h0]
    have h1 : (cs == []) = false := by
      cases cs with
      | nil => simp at h2
      | cons a b => rfl
    simp only [g0_f, eq_s, h1, pk_f, cd_f, F82_4]
    rw [lg_s tt9 rfl, eq_i, decide_eq_false (show ¬ ((cs.length : Nat) : Int) = 1 by omega)]
    simp only [g1_f, pk_f, cd_f, F82_7, cf_k]
    refine mks_ok (by omega) hc ha fun h1 f1 => ?_
    simp only [ex_t, List.getElem?_cons_zero, List.getElem?_cons_succ, oP_some]
    obtain ⟨i, ht, hz⟩ := tt158
    refine al_a ht fun r h2 hg f2 h3 h4 => ?_
    rw [hz] at hg
    refine sn_w hg (cs := asc cs) rfl (asc_len cs) (by simp) (asc_one cs) fun h3' hg3 f3 => ?_
    simp only [cd_t, cf_k]
    refine Ok.bd (K115 fun hbd => ?_)
    unfold F115
    refine tral_ok (by omega) hg3 100000 l (by omega) (by omega) ?_
    exact fun _ => k h3' ((f1.trans f2).over f3 (.inr fun z e => by cases e; exact Nat.le_trans f1.1 h3))

/-- Blanks. -/
def blk : Bs := [32, 9, 10, 13]
theorem trimS_len (cs : Bs) : ∀ l : Bs, (trimS cs l).length ≤ l.length
  | [] => Nat.le_refl _
  | a :: l => by
    simp only [trimS]
    split
    · have := trimS_len cs l
      rw [List.length_cons]; omega
    · exact Nat.le_refl _
theorem blanks_ok {n : Nat} (hn : 4 ≤ n) {r : Nat} {s : Bs} {bad : Bool} {d : Int} {h : H} {K : V → H → Prop} (P : Prs h r s bad d) (hr : r < h.next) (hl : s.length < 50000)
    (k : ∀ h', Prs h' r (trimS blk s) bad d → But h h' (some r) → K (.b (decide ((trimS blk s).length < s.length))) h') : Ok Tryz.prog n 42 [.p r 0] h K := by
  obtain ⟨n, rfl⟩ := Nat.exists_eq_add_of_le' hn
  obtain ⟨ty, P⟩ := P
  refine Ok.bd (K42 fun hbd => ?_)
  unfold F42
  simp only [nl_p, fa_p, Nat.zero_add, c42]
  rw [l1_a P rfl, cf_k]
  refine trim_ok (cs := blk) (by omega) (by decide) (by decide) (by decide) hl fun h1 f1 => ?_
  have P1 := f1.get hr (by simp) P
  rw [lg_s tt9 rfl, l1_a P1 rfl, lg_s tt9 rfl, lt_i]
  refine s1_a P1 (by simp) rfl fun h2 hg f => ?_
  have e : decide ((((trimS blk s).length : Nat) : Int) < ((s.length : Nat) : Int)) = decide ((trimS blk s).length < s.length) := decide_eq_decide.2 ⟨fun h => by omega, fun h => by omega⟩
  rw [e]
  exact fun _ => k h2 ⟨ty, hg⟩ ((f1.none (some r)).trans f)
end Go.Proofs.YtbkhielalbbopaaGreatDoor.Wb
