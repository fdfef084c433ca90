/- The parser as a plain machine over what is left and whether it is bad; a word. -/
import Derived.Test.YtbkhielalbbopaaGreatDoorZp6
set_option linter.unusedSimpArgs false
set_option linter.unusedVariables false
set_option linter.unusedSectionVars false
set_option linter.unnecessarySimpa false
set_option maxRecDepth 100000
namespace Go.Proofs.YtbkhielalbbopaaGreatDoor.Wb
open Go Go.Am Go.Am.Xm

abbrev PS := Bs × Bool
def nmP (p : PS) : PS := (trimS nmS p.1, p.2 || badN (nameS p.1))
def blP (p : PS) : PS := (trimS blk p.1, p.2)
def tkP (t : Bs) (p : PS) : PS := (if hasP t p.1 = true ∧ p.2 = false then p.1.drop t.length else p.1, p.2)
def tkB (t : Bs) (p : PS) : Bool := hasP t p.1 && !p.2
def wtP (t : Bs) (p : PS) : PS := (if hasP t p.1 = true ∧ p.2 = false then p.1.drop t.length else p.1, p.2 || !hasP t p.1)
def txP (t : Bs) (p : PS) : PS := (p.1, p.2 || badT t)
def toP (c : UInt8) (p : PS) : Bs × PS := if p.2 = true then ([], (p.1, true)) else match cut1 c p.1 with
  | some (a, b) => (a, (b, false))
  | none => ([], (p.1, true))
def qtP (c : UInt8) (p : PS) : PS := txP (toP c p).1 (toP c p).2
def wordP (p : PS) : PS := if tkB [34] (blP (wtP [61] (blP (nmP p)))) = true then qtP 34 (tkP [34] (blP (wtP [61] (blP (nmP p))))) else qtP 39 (wtP [39] (tkP [34] (blP (wtP [61] (blP (nmP p))))))

theorem nmP_le (p : PS) : (nmP p).1.length ≤ p.1.length := trimS_len _ _
theorem blP_le (p : PS) : (blP p).1.length ≤ p.1.length := trimS_len _ _
theorem tkP_le (t : Bs) (p : PS) : (tkP t p).1.length ≤ p.1.length := by
  unfold tkP
  simp only
  split
  · rw [List.length_drop]; omega
  · omega
theorem wtP_le (t : Bs) (p : PS) : (wtP t p).1.length ≤ p.1.length := by
  unfold wtP
  simp only
  split
  · rw [List.length_drop]; omega
  · omega
theorem toP_le (c : UInt8) (p : PS) : (toP c p).1.length ≤ p.1.length ∧ (toP c p).2.1.length ≤ p.1.length := by
  unfold toP
  split
  · exact ⟨by simp, Nat.le_refl _⟩
  · split
    · rename_i a b e
      have := cut1_len e
      exact ⟨by simp only; omega, by simp only; omega⟩
    · exact ⟨by simp, Nat.le_refl _⟩

theorem quote_ok {n : Nat} (hn : 10 ≤ n) {r : Nat} {c : UInt8} {p : PS} {d : Int} {h : H} {K : V → H → Prop} (P : Prs h r p.1 p.2 d) (hr : r < h.next) (hr16 : 16 ≤ r) (L : Low h) (hl : p.1.length < 50000)
    (k : ∀ h', Prs h' r (qtP c p).1 (qtP c p).2 d → But h h' (some r) → K (.t []) h') : F108_11 pw (mkX Tryz.prog) (Ok Tryz.prog n) (fun v h => Bd h → K v h) (.p r 0) (.s [c]) h := by
  unfold F108_11
  simp only [cf_k]
  have hle := toP_le c p
  have go : ∀ h1, Prs h1 r (toP c p).2.1 (toP c p).2.2 d → But h h1 (some r) → Ok Tryz.prog n 81 [.p r 0, .s (toP c p).1] h1 fun _ h18 => Bd h18 → K (.t []) h18 := by
    intro h1 P1 f1
    refine text_ok hn P1 (Nat.lt_of_lt_of_le hr f1.1) (L.keep f1 (fun q e => by cases e; exact hr16)) (by omega) fun h2 P2 f2 => ?_
    exact fun _ => k h2 P2 (f1.trans f2)
  refine to1_ok (by omega) P (by omega) (fun h1 a b e hb P1 f1 => ?_) (fun h1 e P1 f1 => ?_)
  · have et : toP c p = (a, (b, false)) := by
      unfold toP
      rw [hb, if_neg (by decide), e]
    rw [et] at go
    exact go h1 P1 f1
  · have et : toP c p = ([], (p.1, true)) := by
      unfold toP
      by_cases hb : p.2 = true
      · rw [if_pos hb]
      · rw [if_neg hb]
        rcases e with e | e
        · rw [e]
        · exact absurd e hb
    rw [et] at go
    exact go h1 P1 f1

theorem word_ok {n : Nat} (hn : 11 ≤ n) {r : Nat} {p : PS} {d : Int} {h : H} {K : V → H → Prop} (P : Prs h r p.1 p.2 d) (hr : r < h.next) (hr16 : 16 ≤ r) (L : Low h) (hl : p.1.length < 50000)
    (k : ∀ h', Prs h' r (wordP p).1 (wordP p).2 d → But h h' (some r) → K (.t []) h') : Ok Tryz.prog n 108 [.p r 0] h K := by
  obtain ⟨n, rfl⟩ := Nat.exists_eq_add_of_le' hn
  refine Ok.bd (K108 fun hbd => ?_)
  unfold F108
  simp only [cf_k, c108]
  have l1 := nmP_le p
  have l2 := blP_le (nmP p)
  have l3 := wtP_le [61] (blP (nmP p))
  have l4 := blP_le (wtP [61] (blP (nmP p)))
  have l5 := tkP_le [34] (blP (wtP [61] (blP (nmP p))))
  have l6 := wtP_le [39] (tkP [34] (blP (wtP [61] (blP (nmP p)))))
  refine name_s_ok (by omega) P hr hl fun h1 P1 f1 => ?_
  have P1 : Prs h1 r (nmP p).1 (nmP p).2 d := P1
  refine blanks_ok (by omega) P1 (Nat.lt_of_lt_of_le hr f1.1) (by omega) fun h2 P2 f2 => ?_
  have P2 : Prs h2 r (blP (nmP p)).1 (blP (nmP p)).2 d := P2
  have f2 := f1.trans f2
  refine want_ok (by omega) P2 fun h3 P3 f3 => ?_
  have P3 : Prs h3 r (wtP [61] (blP (nmP p))).1 (wtP [61] (blP (nmP p))).2 d := P3
  have f3 := f2.trans f3
  refine blanks_ok (by omega) P3 (Nat.lt_of_lt_of_le hr f3.1) (by omega) fun h4 P4 f4 => ?_
  have P4 : Prs h4 r (blP (wtP [61] (blP (nmP p)))).1 (blP (wtP [61] (blP (nmP p)))).2 d := P4
  have f4 := f3.trans f4
  refine take_ok (by omega) P4 fun h5 P5 f5 => ?_
  have P5 : Prs h5 r (tkP [34] (blP (wtP [61] (blP (nmP p))))).1 (tkP [34] (blP (wtP [61] (blP (nmP p))))).2 d := P5
  have f5 := f4.trans f5
  have low : ∀ {h' : H}, But h h' (some r) → Low h' := fun f => L.keep f (fun q e => by cases e; exact hr16)
  have eb : (hasP [34] (blP (wtP [61] (blP (nmP p)))).1 && !(blP (wtP [61] (blP (nmP p)))).2) = tkB [34] (blP (wtP [61] (blP (nmP p)))) := rfl
  rw [eb]
  cases hb : tkB [34] (blP (wtP [61] (blP (nmP p)))) with
  | true =>
    rw [cd_t]
    refine quote_ok (by omega) P5 (Nat.lt_of_lt_of_le hr f5.1) hr16 (low f5) (by omega) fun h6 P6 f6 => k h6 ?_ (f5.trans f6)
    rw [wordP, if_pos hb]
    exact P6
  | false =>
    rw [cd_f]
    refine want_ok (by omega) P5 fun h6 P6 f6 => ?_
    have P6 : Prs h6 r (wtP [39] (tkP [34] (blP (wtP [61] (blP (nmP p)))))).1 (wtP [39] (tkP [34] (blP (wtP [61] (blP (nmP p)))))).2 d := P6
    have f6 := f5.trans f6
    refine quote_ok (by omega) P6 (Nat.lt_of_lt_of_le hr f6.1) hr16 (low f6) (by omega) fun h7 P7 f7 => k h7 ?_ (f6.trans f7)
    rw [wordP, if_neg (by rw [hb]; decide)]
    exact P7
end Go.Proofs.YtbkhielalbbopaaGreatDoor.Wb
