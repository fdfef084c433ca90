/- The abstract machine: steps that write a block, make one, or move one. -/
import Derived.Test.YtfkbofbdonmpfaaAm13
set_option linter.unusedSimpArgs false
set_option linter.unusedVariables false
set_option linter.unusedSectionVars false
set_option linter.unnecessarySimpa false
namespace Go.Am
open Go.Instr

section
variable {P : Program} {j : Inj} {base : Nat} {h : H} {w : World}

/-- The injection, turned at one number. -/
def upd (j : Inj) (r : Nat) (q : J) : Inj := fun k => if k = r then some q else j k

theorem upd_same (j : Inj) (r : Nat) (q : J) : upd j r q r = some q := by simp [upd]
theorem upd_other {j : Inj} {r : Nat} {q : J} {k : Nat} (h : k ≠ r) : upd j r q k = j k := by simp [upd, h]
theorem upd_ext {r : Nat} {q : J} (hj : j r = none) : Ext j (upd j r q) := by
  intro k q' hk
  by_cases e : k = r
  · subst e; rw [hj] at hk; cases hk
  · rw [upd_other e]; exact hk

theorem write_step {r : Nat} {b0 b1 : B} {q : J} {o1 : Obj} (R : HRel P base j h w) (hr : h.mem.get r = some b0) (hq : j r = some q) (ho0 : b0.own = true) (ho1 : b1.own = true)
    (hb : BRel P j base q b1 (wset w q.c o1)) : Step P base j h w j ⟨h.next, h.mem.put r (some b1)⟩ (wset w q.c o1) where
  mono := Nat.le_refl _
  out := fun _ _ => rfl
  rel := by
    refine ⟨fun r' b q' h1 h2 => ?_, fun r1 r2 b1' b2' q1 q2 h1 h2 h3 h4 h5 h6 h7 => ?_, fun r' b h1 => ?_, by simpa using R.base⟩
    · simp only [T.get_put] at h1
      by_cases e : r = r'
      · subst e
        rw [if_pos rfl] at h1; cases h1
        rw [hq] at h2; cases h2
        exact hb
      · rw [if_neg e] at h1
        have h0 := R.blk r' b q' h1 h2
        refine h0.congr ?_
        rw [wset_get, if_neg]
        rintro ⟨e1, _⟩
        cases hob : b.own with
        | true => exact e (R.inj r r' b0 b q q' hr h1 hq h2 ho0 hob e1.symm)
        | false =>
          have := (R.blk r b0 q hr hq).ge ho0
          cases b with
          | mp _ _ => cases hob
          | it _ _ => cases hob
          | c l ty own =>
            have h3 := h0.2
            rw [if_neg (by simp only [B.own] at hob; simp [hob])] at h3
            omega
    · simp only [T.get_put] at h1 h2
      have k1 : ∃ b, h.mem.get r1 = some b ∧ b.own = true := by
        by_cases e : r = r1
        · subst e; exact ⟨b0, hr, ho0⟩
        · rw [if_neg e] at h1; exact ⟨_, h1, h5⟩
      have k2 : ∃ b, h.mem.get r2 = some b ∧ b.own = true := by
        by_cases e : r = r2
        · subst e; exact ⟨b0, hr, ho0⟩
        · rw [if_neg e] at h2; exact ⟨_, h2, h6⟩
      obtain ⟨c1, d1, e1⟩ := k1
      obtain ⟨c2, d2, e2⟩ := k2
      exact R.inj r1 r2 c1 c2 q1 q2 d1 d2 h3 h4 e1 e2 h7
    · simp only [T.get_put] at h1
      by_cases e : r = r'
      · subst e; exact R.next _ _ hr
      · rw [if_neg e] at h1; exact R.next _ _ h1
  size := by simp
  frame := fun c hc hn => by
    rw [wset_get, if_neg]
    rintro ⟨e, _⟩
    exact hn r b0 q hr ho0 hq e.symm
  new := fun r' b q' h1 h2 => by
    simp only [T.get_put] at h2
    by_cases e : r = r'
    · subst e; have := R.next _ _ hr; omega
    · rw [if_neg e] at h2; have := R.next _ _ h2; omega
  keep := fun r' h1 h2 => by
    simp only [T.get_put]
    rw [if_neg]
    rintro rfl
    rw [hq] at h2; cases h2
  old := fun r' b' h1 h2 => by
    simp only [T.get_put] at h2
    by_cases e : r = r'
    · subst e; rw [if_pos rfl] at h2; cases h2; exact ⟨b0, hr, by rw [ho0, ho1]⟩
    · rw [if_neg e] at h2; exact ⟨b', h2, rfl⟩
  os := rfl
  tape := rfl
  output := rfl

/-- The heap with a block struck out, or not. -/
def struck (m : T B) : Option Nat → T B
  | none => m
  | some r => m.put r none

theorem struck_get (m : T B) (k : Option Nat) (r : Nat) (b : B) (h : (struck m k).get r = some b) : m.get r = some b ∧ k ≠ some r := by
  cases k with
  | none => exact ⟨h, by simp⟩
  | some r0 =>
    simp only [struck, T.get_put] at h
    by_cases e : r0 = r
    · rw [if_pos e] at h; cases h
    · rw [if_neg e] at h; exact ⟨h, by simpa using e⟩

/-- A new block, another one perhaps struck out. -/
theorem alloc_step {b : B} {v : V} {v' : Value} {w' : World} {e : Nat} (kill : Option Nat) (R : HRel P base j h w) (M : Made P base j h.next b v w v' w' e) (hf : j h.next = none) (hk : ∀ r, kill = some r → ∃ q, j r = some q) :
    Step P base j h w (upd j h.next ⟨w.heap.size, 0, e, none⟩) ⟨h.next + 1, (struck h.mem kill).put h.next (some b)⟩ w' ∧ ren (upd j h.next ⟨w.heap.size, 0, e, none⟩) v = some v' := by
  have hx : Ext j (upd j h.next ⟨w.heap.size, 0, e, none⟩) := upd_ext hf
  obtain ⟨m1, m2⟩ := M.rel _ hx (upd_same _ _ _)
  have hget : ∀ r b', ((struck h.mem kill).put h.next (some b)).get r = some b' → (r = h.next ∧ b' = b) ∨ (r ≠ h.next ∧ r < h.next ∧ h.mem.get r = some b') := by
    intro r b' hr
    rw [T.get_put] at hr
    by_cases e : h.next = r
    · rw [if_pos e] at hr; cases hr; exact .inl ⟨e.symm, rfl⟩
    · rw [if_neg e] at hr
      obtain ⟨h1, h2⟩ := struck_get _ _ _ _ hr
      exact .inr ⟨fun k => e k.symm, R.next _ _ h1, h1⟩
  refine ⟨?_, m1⟩
  exact {
    mono := Nat.le_succ _
    out := fun r hr => upd_other (by intro e; subst e; rcases hr with hr | hr <;> simp at hr <;> omega)
    rel := by
      refine ⟨fun r b' q h1 h2 => ?_, fun r1 r2 b1 b2 q1 q2 h1 h2 h3 h4 h5 h6 h7 => ?_, fun r b' h1 => ?_, by have := R.base; rw [M.size]; omega⟩
      · rcases hget r b' h1 with ⟨rfl, rfl⟩ | ⟨e1, e2, e3⟩
        · rw [upd_same] at h2; cases h2; exact m2
        · rw [upd_other e1] at h2
          have h0 := R.blk r b' q e3 h2
          exact (h0.ext hx).congr (M.heap _ (h0.lt R.base))
      · rcases hget r1 b1 h1 with ⟨rfl, rfl⟩ | ⟨e1, e2, e3⟩ <;> rcases hget r2 b2 h2 with ⟨rfl, rfl⟩ | ⟨f1, f2, f3⟩
        · rfl
        · rw [upd_same] at h3; cases h3
          rw [upd_other f1] at h4
          have := (R.blk r2 b2 q2 f3 h4).lt R.base
          simp only at h7; omega
        · rw [upd_same] at h4; cases h4
          rw [upd_other e1] at h3
          have := (R.blk r1 b1 q1 e3 h3).lt R.base
          simp only at h7; omega
        · rw [upd_other e1] at h3; rw [upd_other f1] at h4
          exact R.inj r1 r2 b1 b2 q1 q2 e3 f3 h3 h4 h5 h6 h7
      · rcases hget r b' h1 with ⟨rfl, rfl⟩ | ⟨e1, e2, e3⟩
        · exact Nat.lt_succ_self _
        · exact Nat.lt_succ_of_lt e2
    size := by rw [M.size]; omega
    frame := fun c hc _ => M.heap c hc
    new := fun r b' q h1 h2 h3 h4 => by
      rcases hget r b' h2 with ⟨rfl, rfl⟩ | ⟨e1, e2, e3⟩
      · rw [upd_same] at h4; cases h4; exact .inl (Nat.le_refl _)
      · omega
    keep := fun r h1 h2 => by
      rw [T.get_put, if_neg (by omega)]
      cases kill with
      | none => rfl
      | some r0 =>
        simp only [struck, T.get_put]
        rw [if_neg]
        rintro rfl
        obtain ⟨q, hq⟩ := hk r0 rfl
        rw [hq] at h2; cases h2
    old := fun r b' h1 h2 => by
      rcases hget r b' h2 with ⟨rfl, rfl⟩ | ⟨e1, e2, e3⟩
      · omega
      · exact ⟨b', e3, rfl⟩
    os := M.os
    tape := M.tape
    output := M.output }

/-- A block moved: what was at 'r' is struck out, and the new block lies where it lay. -/
theorem move_step {r : Nat} {b0 b1 : B} {q q1 : J} {o1 : Obj} (R : HRel P base j h w) (hr : h.mem.get r = some b0) (hq : j r = some q) (ho0 : b0.own = true) (hf : j h.next = none) (hc : q1.c = q.c)
    (hb : ∀ j', Ext j j' → BRel P j' base q1 b1 (wset w q.c o1)) :
    Step P base j h w (upd j h.next q1) ⟨h.next + 1, (h.mem.put r none).put h.next (some b1)⟩ (wset w q.c o1) := by
  have hx : Ext j (upd j h.next q1) := upd_ext hf
  have hget : ∀ k b', ((h.mem.put r none).put h.next (some b1)).get k = some b' → (k = h.next ∧ b' = b1) ∨ (k ≠ h.next ∧ k < h.next ∧ k ≠ r ∧ h.mem.get k = some b') := by
    intro k b' hk
    rw [T.get_put] at hk
    by_cases e : h.next = k
    · rw [if_pos e] at hk; cases hk; exact .inl ⟨e.symm, rfl⟩
    · rw [if_neg e, T.get_put] at hk
      by_cases e2 : r = k
      · rw [if_pos e2] at hk; cases hk
      · rw [if_neg e2] at hk; exact .inr ⟨fun x => e x.symm, R.next _ _ hk, fun x => e2 x.symm, hk⟩
  have hother : ∀ k b' q', k ≠ r → h.mem.get k = some b' → j k = some q' → q'.c ≠ q.c := by
    intro k b' q' hne hk hq' e
    cases hob : b'.own with
    | true => exact hne (R.inj k r b' b0 q' q hk hr hq' hq hob ho0 e)
    | false =>
      have h1 := (R.blk r b0 q hr hq).ge ho0
      have h0 := R.blk k b' q' hk hq'
      cases b' with
      | mp _ _ => cases hob
      | it _ _ => cases hob
      | c l ty own =>
        have h3 := h0.2
        rw [if_neg (by simp only [B.own] at hob; simp [hob])] at h3
        omega
  exact {
    mono := Nat.le_succ _
    out := fun k hk => upd_other (by intro e; subst e; rcases hk with hk | hk <;> simp at hk <;> omega)
    rel := by
      refine ⟨fun k b' q' h1 h2 => ?_, fun k1 k2 c1 c2 q1' q2' h1 h2 h3 h4 h5 h6 h7 => ?_, fun k b' h1 => ?_, by simpa using R.base⟩
      · rcases hget k b' h1 with ⟨rfl, rfl⟩ | ⟨e1, e2, e3, e4⟩
        · rw [upd_same] at h2; cases h2; exact hb _ hx
        · rw [upd_other e1] at h2
          refine ((R.blk k b' q' e4 h2).ext hx).congr ?_
          rw [wset_get, if_neg]
          rintro ⟨e, _⟩
          exact hother k b' q' e3 e4 h2 e
      · rcases hget k1 c1 h1 with ⟨rfl, rfl⟩ | ⟨e1, e2, e3, e4⟩ <;> rcases hget k2 c2 h2 with ⟨rfl, rfl⟩ | ⟨f1, f2, f3, f4⟩
        · rfl
        · rw [upd_same] at h3; cases h3
          rw [upd_other f1] at h4
          exact absurd (by omega) (hother k2 c2 q2' f3 f4 h4)
        · rw [upd_same] at h4; cases h4
          rw [upd_other e1] at h3
          exact absurd (by omega) (hother k1 c1 q1' e3 e4 h3)
        · rw [upd_other e1] at h3; rw [upd_other f1] at h4
          exact R.inj k1 k2 c1 c2 q1' q2' e4 f4 h3 h4 h5 h6 h7
      · rcases hget k b' h1 with ⟨rfl, rfl⟩ | ⟨e1, e2, e3, e4⟩
        · exact Nat.lt_succ_self _
        · exact Nat.lt_succ_of_lt e2
    size := by simp
    frame := fun c _ hn => by
      rw [wset_get, if_neg]
      rintro ⟨e, _⟩
      exact hn r b0 q hr ho0 hq e.symm
    new := fun k b' q' h1 h2 h3 h4 => by
      rcases hget k b' h2 with ⟨rfl, rfl⟩ | ⟨e1, e2, e3, e4⟩
      · rw [upd_same] at h4; cases h4; exact .inr ⟨r, b0, q, hr, ho0, hq, hc.symm⟩
      · omega
    keep := fun k h1 h2 => by
      rw [T.get_put, if_neg (by omega), T.get_put, if_neg]
      rintro rfl
      rw [hq] at h2; cases h2
    old := fun k b' h1 h2 => by
      rcases hget k b' h2 with ⟨rfl, rfl⟩ | ⟨e1, e2, e3, e4⟩
      · omega
      · exact ⟨b', e4, rfl⟩
    os := rfl
    tape := rfl
    output := rfl }

/-! ### Stores -/

theorem store_run {r o : Nat} {vs : List V} {vs' : List Value} {h' : H} {q : J} (R : HRel P base j h w) (hs : storeB h r o vs = some h') (hq : j r = some q) (hv : rens j vs = some vs') :
    ∃ w', (storeCells ⟨q.c, q.d + o, none⟩ vs').run P w = .ok () w' ∧ Step P base j h w j h' w' := by
  unfold storeB at hs
  cases hr : h.mem.get r with
  | none => simp [hr] at hs
  | some b =>
    cases b <;> simp only [hr, reduceCtorEq] at hs
    rename_i l ty own
    cases hb : (own && vs.all oneV) with
    | false => rw [hb] at hs; cases hs
    | true =>
      rw [hb] at hs; simp only [cond_true] at hs
      simp only [Bool.and_eq_true] at hb
      obtain ⟨rfl, hone⟩ := hb
      cases ho : overAt l o vs with
      | none => simp [ho] at hs
      | some l' =>
        simp only [ho, T.seq_eq, Option.some.injEq] at hs; subst hs
        have hB := R.blk r _ q hr hq
        have h2 := hB.2
        rw [if_pos rfl] at h2
        obtain ⟨h3, cs, fr, h4, h5, h6⟩ := h2
        obtain ⟨l1, l2⟩ := overAt_len ho
        have lv := rens_length hv
        have hrun := run_storeCells' (P := P) vs' w q.c (q.d + o) 0 cs ty fr h4 h5 (by omega) (by
          intro u hu
          obtain ⟨i, hi, rfl⟩ := List.getElem_of_mem hu
          have hvs : vs[i]? = some vs[i] := List.getElem?_eq_getElem (by omega)
          obtain ⟨u', e1, e2⟩ := rens_get hv hvs
          rw [List.getElem?_eq_getElem hi] at e1; cases e1
          exact oneV_ren e2 (List.all_eq_true.1 hone _ (List.getElem_mem _)))
        refine ⟨_, hrun, write_step (b1 := .c l' ty true) R hr hq rfl rfl ⟨fun i u hu => ?_, ?_⟩⟩
        · have hlt := (Array.getElem?_eq_some_iff.1 h4).1
          have hcell : ∀ k, World.cell? (wset w q.c (.cells (wr cs (q.d + o + 0) vs') ty fr)) ⟨q.c, k, none⟩ = (wr cs (q.d + o) vs')[k]? := by
            intro k
            simp only [World.cell?, wset_get, hlt, and_self, if_true, Option.isSome_none, Bool.false_eq_true, if_false, Nat.add_zero]
          rw [hcell, wr_get vs' cs (q.d + o) (q.d + i) (by omega)]
          rw [overAt_get ho] at hu
          by_cases e : o ≤ i ∧ i < o + vs.length
          · rw [if_pos e] at hu
            rw [if_pos (by omega), show q.d + i - (q.d + o) = i - o by omega]
            exact rens_get hv hu
          · rw [if_neg e] at hu
            rw [if_neg (by omega)]
            obtain ⟨u', e1, e2⟩ := hB.1 i u hu
            simp only [World.cell?, h4, Option.isSome_none, Bool.false_eq_true, if_false] at e1
            exact ⟨u', e1, e2⟩
        · rw [if_pos rfl]
          refine ⟨h3, _, fr, by rw [wset_get, if_pos ⟨rfl, (Array.getElem?_eq_some_iff.1 h4).1⟩], by simpa [wr_size] using h5, by simp only [wr_size]; omega⟩

end
end Go.Am
