/- A tree's beginning. -/
import Derived.Test.YtbkhielalbbopaaGreatDoorZp7
set_option linter.unusedSimpArgs false
set_option linter.unusedVariables false
set_option linter.unusedSectionVars false
set_option linter.unnecessarySimpa false
set_option maxRecDepth 100000
namespace Go.Proofs.YtbkhielalbbopaaGreatDoor.Wb
open Go Go.Am Go.Am.Xm

def opL : Nat → PS → Bool × PS
  | 0, p => (true, p)
  | m + 1, p => if p.2 = true then (true, p) else if tkB [47, 62] (blP p) = true then (true, tkP [47, 62] (blP p)) else if tkB [62] (tkP [47, 62] (blP p)) = true then (false, tkP [62] (tkP [47, 62] (blP p))) else
    if (blP p).1.length < p.1.length then opL m (wordP (tkP [62] (tkP [47, 62] (blP p)))) else opL m ((tkP [62] (tkP [47, 62] (blP p))).1, true)
theorem wordP_le (p : PS) : (wordP p).1.length ≤ p.1.length := by
  have l1 := nmP_le p
  have l2 := blP_le (nmP p)
  have l3 := wtP_le [61] (blP (nmP p))
  have l4 := blP_le (wtP [61] (blP (nmP p)))
  have l5 := tkP_le [34] (blP (wtP [61] (blP (nmP p))))
  have l6 := wtP_le [39] (tkP [34] (blP (wtP [61] (blP (nmP p)))))
  unfold wordP
  split
  · have := (toP_le 34 (tkP [34] (blP (wtP [61] (blP (nmP p)))))).2
    show (toP 34 _).2.1.length ≤ _
    omega
  · have := (toP_le 39 (wtP [39] (tkP [34] (blP (wtP [61] (blP (nmP p))))))).2
    show (toP 39 _).2.1.length ≤ _
    omega

theorem opl_ok {n : Nat} (hn : 12 ≤ n) {r : Nat} {d : Int} {hS : H} {nm : Bs} {K : V → H → Prop} (hr16 : 16 ≤ r) (L : Low hS) :
    ∀ (m : Nat) (p : PS) (h : H), Prs h r p.1 p.2 d → r < h.next → But hS h (some r) → p.1.length < 50000 → ((p.2 = true ∧ 1 ≤ m) ∨ p.1.length + 2 ≤ m) →
      (∀ h', Prs h' r (opL m p).2.1 (opL m p).2.2 d → But hS h' (some r) → K (.t [.s nm, .b (opL m p).1]) h') →
      F78_12 pw (mkX Tryz.prog) (Ok Tryz.prog n) (fun v h => Bd h → K v h) m (.p r 0) (.s nm) h := by
  intro m
  induction m with
  | zero => intro p h _ _ _ _ hm; omega
  | succ m ih =>
    intro p h P hr f hl hm k
    have P0 := P
    obtain ⟨ty, hg⟩ := P0
    show pw.nl _ _
    simp only [nl_p, fa_p, Nat.zero_add]
    rw [l1_a hg rfl, nt_b]
    by_cases hb : p.2 = true
    · rw [hb, Bool.not_true, cd_f]
      unfold F78_7
      rw [opL, if_pos hb] at k
      exact fun _ => k h P f
    · have hb' : p.2 = false := by simpa using hb
      rw [hb', Bool.not_false, cd_t]
      rw [opL, if_neg hb] at k
      unfold F78_15
      simp only [cf_k, c78]
      have l1 := blP_le p
      have l2 := tkP_le [47, 62] (blP p)
      have l3 := tkP_le [62] (tkP [47, 62] (blP p))
      have l4 := wordP_le (tkP [62] (tkP [47, 62] (blP p)))
      refine blanks_ok (by omega) P hr hl fun h1 P1 f1 => ?_
      have P1 : Prs h1 r (blP p).1 (blP p).2 d := P1
      have g1 := f.trans f1
      refine take_ok (by omega) P1 fun h2 P2 f2 => ?_
      have P2 : Prs h2 r (tkP [47, 62] (blP p)).1 (tkP [47, 62] (blP p)).2 d := P2
      have g2 := g1.trans f2
      have e1 : (hasP [47, 62] (blP p).1 && !(blP p).2) = tkB [47, 62] (blP p) := rfl
      rw [e1]
      cases h1b : tkB [47, 62] (blP p) with
      | true =>
        rw [if_pos h1b] at k
        rw [cd_t]
        exact fun _ => k h2 P2 g2
      | false =>
        rw [if_neg (by rw [h1b]; decide)] at k
        rw [cd_f]
        refine take_ok (by omega) P2 fun h3 P3 f3 => ?_
        have P3 : Prs h3 r (tkP [62] (tkP [47, 62] (blP p))).1 (tkP [62] (tkP [47, 62] (blP p))).2 d := P3
        have g3 := g2.trans f3
        have r3 : r < h3.next := Nat.lt_of_lt_of_le hr (Nat.le_trans f1.1 (Nat.le_trans f2.1 f3.1))
        have e2 : (hasP [62] (tkP [47, 62] (blP p)).1 && !(tkP [47, 62] (blP p)).2) = tkB [62] (tkP [47, 62] (blP p)) := rfl
        rw [e2]
        cases h2b : tkB [62] (tkP [47, 62] (blP p)) with
        | true =>
          rw [if_pos h2b] at k
          rw [cd_t]
          exact fun _ => k h3 P3 g3
        | false =>
          rw [if_neg (by rw [h2b]; decide)] at k
          rw [cd_f]
          have e3 : decide ((trimS blk p.1).length < p.1.length) = decide ((blP p).1.length < p.1.length) := rfl
          rw [e3]
          by_cases hs : (blP p).1.length < p.1.length
          · rw [if_pos hs] at k
            simp only [decide_eq_true hs, nt_b, Bool.not_true, cd_f]
            refine word_ok (by omega) P3 r3 hr16 (L.keep g3 (fun q e => by cases e; exact hr16)) (by omega) fun h4 P4 f4 => ?_
            exact ih _ h4 P4 (Nat.lt_of_lt_of_le r3 f4.1) (g3.trans f4) (by omega) (.inr (by
              rcases hm with hm | hm
              · exact absurd hm.1 hb
              · omega)) k
          · rw [if_neg hs] at k
            simp only [decide_eq_false hs, nt_b, Bool.not_false, cd_t, nl_p, fa_p, Nat.zero_add]
            obtain ⟨ty3, hg3⟩ := P3
            refine s1_a hg3 (by simp) rfl fun h4 hg4 f4 => ?_
            exact ih ((tkP [62] (tkP [47, 62] (blP p))).1, true) h4 ⟨ty3, hg4⟩ (Nat.lt_of_lt_of_le r3 f4.1) (g3.trans f4) (by show (tkP _ _).1.length < _; omega) (.inl ⟨rfl, by
              rcases hm with hm | hm
              · exact absurd hm.1 hb
              · omega⟩) k

/-- A tree's beginning: its name, whether it is all of it, what is left. -/
def openP (p : PS) : Bool × PS := opL 100000 (nmP p)
theorem open_ok {n : Nat} (hn : 13 ≤ n) {r : Nat} {p : PS} {d : Int} {h : H} {K : V → H → Prop} (P : Prs h r p.1 p.2 d) (hr : r < h.next) (hr16 : 16 ≤ r) (L : Low h) (hl : p.1.length < 50000)
    (k : ∀ h', Prs h' r (openP p).2.1 (openP p).2.2 d → But h h' (some r) → K (.t [.s (nameS p.1), .b (openP p).1]) h') : Ok Tryz.prog n 78 [.p r 0] h K := by
  obtain ⟨n, rfl⟩ := Nat.exists_eq_add_of_le' hn
  refine Ok.bd (K78 fun hbd => ?_)
  unfold F78
  rw [cf_k]
  have l1 := nmP_le p
  refine name_s_ok (by omega) P hr hl fun h1 P1 f1 => ?_
  have P1 : Prs h1 r (nmP p).1 (nmP p).2 d := P1
  exact opl_ok (by omega) hr16 L 100000 (nmP p) h1 P1 (Nat.lt_of_lt_of_le hr f1.1) f1 (by omega) (.inr (by omega)) k
end Go.Proofs.YtbkhielalbbopaaGreatDoor.Wb
