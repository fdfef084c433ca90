/- The parser: what stands ahead of a tree and behind it; Parse. -/
import Derived.Test.YtbkhielalbbopaaGreatDoorZq5
set_option linter.unusedSimpArgs false
set_option linter.unusedVariables false
set_option linter.unusedSectionVars false
set_option linter.unnecessarySimpa false
set_option maxRecDepth 100000
namespace Go.Proofs.YtbkhielalbbopaaGreatDoor.Wb
open Go Go.Am Go.Am.Xm

def ahL : Nat → Bool → PS → Option PS
  | 0, _, _ => none
  | m + 1, o, p => if p.2 = true then some p else if (blP p).1.length < p.1.length then ahL m o (blP p) else match remP (blP p) with
    | none => none
    | some (true, p2) => ahL m o p2
    | some (false, p2) => if o = false ∧ tkB [60, 63] p2 = true then match toD 63 62 (p2.1.drop 2) with
        | some b => ahL m true (b, false)
        | none => none
      else some p2
def trL : Nat → PS → Option PS
  | 0, _ => none
  | m + 1, p => if p.2 = true then some p else if (blP p).1.length < p.1.length then trL m (blP p) else match remP (blP p) with
    | none => none
    | some (true, p2) => trL m p2
    | some (false, p2) => some p2
def XT0 : XT := .node [] [] []
def endP (t : XT) (p : PS) (d : Int) : XT × Int := if p.2 = true ∨ p.1 ≠ [] then (XT0, 9) else if 8 < d then (XT0, 2) else (t, 0)
/-- What a text comes to, as a tree. -/
def parseP (k : Nat) (s : Bs) : Option (XT × Int) := match ahL 100000 false (s, false) with
  | none => none
  | some p1 => if (wtP [60] p1).2 = true then some (endP XT0 (wtP [60] p1) 0) else match treeP k 1 (wtP [60] p1) 0 with
    | none => none
    | some (t, p3, d) => match trL 100000 p3 with
      | none => none
      | some p4 => some (endP t p4 d)

theorem ahL_le : ∀ (m : Nat) {o : Bool} {p q : PS}, ahL m o p = some q → q.1.length ≤ p.1.length
  | 0, _, _, _, h => by cases h
  | m + 1, o, p, q, h => by
    rw [ahL] at h
    have l1 := blP_le p
    split at h
    · cases h; exact Nat.le_refl _
    split at h
    · have := ahL_le m h; omega
    split at h
    · cases h
    · rename_i p2 e
      have := remP_le e
      have := ahL_le m h
      omega
    · rename_i p2 e
      have := remP_le e
      split at h
      · split at h
        · rename_i b e2
          have := ahL_le m h
          obtain ⟨a, h1, _⟩ := toD_some e2
          have h2 := congrArg List.length h1
          rw [List.length_drop] at h2
          simp only [List.length_append, List.length_cons] at h2
          simp only at this
          omega
        · cases h
      · cases h; omega
theorem trL_le : ∀ (m : Nat) {p q : PS}, trL m p = some q → q.1.length ≤ p.1.length
  | 0, _, _, h => by cases h
  | m + 1, p, q, h => by
    rw [trL] at h
    have l1 := blP_le p
    split at h
    · cases h; exact Nat.le_refl _
    split at h
    · have := trL_le m h; omega
    split at h
    · cases h
    · rename_i p2 e
      have := remP_le e
      have := trL_le m h
      omega
    · rename_i p2 e
      have := remP_le e
      cases h; omega

theorem ahead_ok {n : Nat} (hn : 8 ≤ n) {r : Nat} {d : Int} {hS : H} {K : V → H → Prop} (hr16 : 16 ≤ r) (L : Low hS) {q : PS}
    (k : ∀ h', Prs h' r q.1 q.2 d → But hS h' (some r) → K (.t []) h') :
    ∀ (m : Nat) (o : Bool) (p : PS) (h : H), ahL m o p = some q → Prs h r p.1 p.2 d → r < h.next → But hS h (some r) → p.1.length < 50000 → F39_3 pw (mkX Tryz.prog) (Ok Tryz.prog n) (fun v h => Bd h → K v h) m (.p r 0) (.b o) h := by
  intro m
  induction m with
  | zero => intro o p h e; cases e
  | succ m ih =>
    intro o p h e P hr f hl
    have low : ∀ {h' : H}, But hS h' (some r) → Low h' := fun f => L.keep f (fun q e => by cases e; exact hr16)
    have P0 := P
    obtain ⟨ty, hg⟩ := P0
    show pw.nl _ _
    simp only [nl_p, fa_p, Nat.zero_add]
    rw [l1_a hg rfl, nt_b]
    rw [ahL] at e
    cases hb : p.2 with
    | true =>
      rw [if_pos hb] at e
      cases e
      rw [Bool.not_true, cd_f]
      exact fun _ => k h P f
    | false =>
      rw [if_neg (by rw [hb]; decide)] at e
      rw [Bool.not_false, cd_t]
      unfold F39_6
      rw [cf_k]
      have lb := blP_le p
      refine blanks_ok (by omega) P hr hl fun h1 P1 f1 => ?_
      have P1 : Prs h1 r (blP p).1 (blP p).2 d := P1
      have r1 : r < h1.next := Nat.lt_of_lt_of_le hr f1.1
      have eb : decide ((trimS blk p.1).length < p.1.length) = decide ((blP p).1.length < p.1.length) := rfl
      rw [eb]
      by_cases hs : (blP p).1.length < p.1.length
      · rw [if_pos hs] at e
        rw [decide_eq_true hs]
        simp only [g0_t, pk_t, cd_t]
        exact ih o _ h1 e P1 r1 (f.trans f1) (by omega)
      · rw [if_neg hs] at e
        rw [decide_eq_false hs]
        simp only [g0_f, cf_k]
        cases hrm : remP (blP p) with
        | none => rw [hrm] at e; cases e
        | some v =>
          obtain ⟨bb, p2⟩ := v
          have lrm := remP_le hrm
          rw [hrm] at e
          refine rem_ok (by omega) (low (f.trans f1)) hr16 P1 (by omega) hrm fun h2 P2 f2 => ?_
          have g2 := (f.trans f1).trans f2
          have r2 : r < h2.next := Nat.lt_of_lt_of_le r1 f2.1
          cases bb with
          | true =>
            simp only at e
            simp only [pk_f, cd_t]
            exact ih o _ h2 e P2 r2 g2 (by omega)
          | false =>
            simp only at e
            simp only [pk_f, cd_f]
            cases o with
            | true =>
              rw [if_neg (by simp)] at e
              cases e
              simp only [nt_b, Bool.not_true, g1_f, pk_f, cd_f]
              exact fun _ => k h2 P2 g2
            | false =>
              simp only [nt_b, Bool.not_false, g1_t, c39]
              refine take_ok (by omega) P2 fun h3 P3 f3 => ?_
              have g3 := g2.trans f3
              have r3 : r < h3.next := Nat.lt_of_lt_of_le r2 f3.1
              have et : (hasP [60, 63] p2.1 && !p2.2) = tkB [60, 63] p2 := rfl
              rw [et]
              simp only [pk_t]
              cases ht : tkB [60, 63] p2 with
              | false =>
                rw [if_neg (by rw [ht]; simp)] at e
                cases e
                rw [cd_f]
                rw [if_neg (by
                  rintro ⟨x1, x2⟩
                  simp only [tkB, x1, x2] at ht
                  cases ht)] at P3
                exact fun _ => k h3 P3 g3
              | true =>
                rw [if_pos ⟨rfl, ht⟩] at e
                rw [cd_t]
                have hx : hasP [60, 63] p2.1 = true ∧ p2.2 = false := by
                  simpa [tkB] using ht
                rw [if_pos hx, hx.2] at P3
                split at e
                · rename_i b e2
                  obtain ⟨a, h1', h2'⟩ := toD_some e2
                  rw [show ([60, 63] : Bs).length = 2 from rfl, h1'] at P3
                  have hll := congrArg List.length h1'
                  rw [List.length_drop] at hll
                  simp only [List.length_append, List.length_cons] at hll
                  try simp only [cf_k]
                  refine to2_ok (by omega) (low g3) P3 h2' (by simp only [List.length_append, List.length_cons]; omega) fun h4 P4 f4 => ?_
                  exact ih true (b, false) h4 e P4 (Nat.lt_of_lt_of_le r3 f4.1) (g3.trans f4) (by simp only; omega)
                · cases e

theorem aheadF_ok {n : Nat} (hn : 9 ≤ n) {r : Nat} {p q : PS} {d : Int} {h : H} {K : V → H → Prop} (hr16 : 16 ≤ r) (L : Low h) (e : ahL 100000 false p = some q) (P : Prs h r p.1 p.2 d) (hr : r < h.next) (hl : p.1.length < 50000)
    (k : ∀ h', Prs h' r q.1 q.2 d → But h h' (some r) → K (.t []) h') : Ok Tryz.prog n 39 [.p r 0] h K := by
  obtain ⟨n, rfl⟩ := Nat.exists_eq_add_of_le' hn
  refine Ok.bd (K39 fun hbd => ?_)
  unfold F39
  exact ahead_ok (by omega) hr16 L k 100000 false p h e P hr (But.refl _ _) hl
end Go.Proofs.YtbkhielalbbopaaGreatDoor.Wb
