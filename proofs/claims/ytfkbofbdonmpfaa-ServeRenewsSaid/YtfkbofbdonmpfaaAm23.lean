/- The abstract machine: a region in any order. What a part of its operations comes to. -/
import Derived.Test.YtfkbofbdonmpfaaAm22
set_option linter.unusedSimpArgs false
set_option linter.unusedVariables false
set_option linter.unusedSectionVars false
set_option linter.unnecessarySimpa false
namespace Go.Am
open Go.Instr

/-- The world behind some operations of a region, against blocks looked up. -/
structure PStep (P : Program) (base : Nat) (j0 : Inj) (h0 : H) (w0 : World) (j : Inj) (g : Nat → Option B) (N : Nat) (w : World) : Prop where
  out : ∀ r, (r < h0.next ∨ N ≤ r) → j r = j0 r
  hg : HG P base j g w
  size : w0.heap.size ≤ w.heap.size
  frame : ∀ c, c < w0.heap.size → (∀ r b q, h0.mem.get r = some b → b.own = true → j0 r = some q → q.c ≠ c) → w.heap[c]? = w0.heap[c]?
  new : ∀ r b q, h0.next ≤ r → g r = some b → b.own = true → j r = some q → w0.heap.size ≤ q.c ∨ ∃ r0 b0 q0, h0.mem.get r0 = some b0 ∧ b0.own = true ∧ j0 r0 = some q0 ∧ q0.c = q.c
  keep : ∀ r, r < h0.next → j0 r = none → g r = h0.mem.get r
  old : ∀ r b', r < h0.next → g r = some b' → ∃ b, h0.mem.get r = some b ∧ b.own = b'.own
  os : w.os = w0.os
  tape : w.tape = w0.tape
  output : w.output = w0.output

section
variable {P : Program} {base : Nat} {j0 j j' : Inj} {h0 h h' : H} {w0 w w' : World} {g g' : Nat → Option B} {N : Nat}

theorem PStep.unmapped (s : PStep P base j0 h0 w0 j g N w) {c : Nat} (hc : c < w0.heap.size) (hn : ∀ r b q, h0.mem.get r = some b → b.own = true → j0 r = some q → q.c ≠ c) : ∀ r b q, g r = some b → b.own = true → j r = some q → q.c ≠ c := by
  intro r b q hb ho hq e
  by_cases hr : r < h0.next
  · rw [s.out r (.inl hr)] at hq
    obtain ⟨b0, h1, h2⟩ := s.old r b hr hb
    exact hn r b0 q h1 (by rw [h2]; exact ho) hq e
  · rcases s.new r b q (by omega) hb ho hq with h1 | ⟨r0, b0, q0, a1, a2, a3, a4⟩
    · omega
    · exact hn r0 b0 q0 a1 a2 a3 (by omega)

theorem PStep.start (R : HRel P base j0 h0 w0) (hg : ∀ r, r < h0.next → g r = h0.mem.get r) (hj : ∀ r, h0.next ≤ r → r < N → j0 r = none) (hN : ∀ r b, N ≤ r → g r ≠ some b) : PStep P base j0 h0 w0 j0 g N w0 where
  out := fun _ _ => rfl
  hg := by
    have key : ∀ r b q, g r = some b → j0 r = some q → r < h0.next ∧ h0.mem.get r = some b := by
      intro r b q h1 h2
      by_cases hr : r < h0.next
      · exact ⟨hr, by rw [← hg r hr]; exact h1⟩
      · by_cases hr2 : r < N
        · rw [hj r (by omega) hr2] at h2; cases h2
        · exact absurd h1 (hN r b (by omega))
    exact ⟨fun r b q h1 h2 => R.blk r b q (key r b q h1 h2).2 h2, fun r r' b b' q q' h1 h2 h3 h4 h5 h6 h7 => R.inj r r' b b' q q' (key _ _ _ h1 h3).2 (key _ _ _ h2 h4).2 h3 h4 h5 h6 h7, R.base⟩
  size := Nat.le_refl _
  frame := fun _ _ _ => rfl
  new := fun r b q h1 h2 _ h4 => by
    exfalso
    by_cases hr2 : r < N
    · rw [hj r h1 hr2] at h4; cases h4
    · exact hN r b (by omega) h2
  keep := fun r hr _ => hg r hr
  old := fun r b' hr h1 => ⟨b', by rw [← hg r hr]; exact h1, rfl⟩
  os := rfl
  tape := rfl
  output := rfl

theorem PStep.soft (s : PStep P base j0 h0 w0 j g N w) (f : Soft base w w') (hf : ∀ c, (∀ r b q, g r = some b → b.own = true → j r = some q → q.c ≠ c) → w'.heap[c]? = w.heap[c]?) : PStep P base j0 h0 w0 j g N w' where
  out := s.out
  hg := ⟨fun r b q h1 h2 => f.brel (s.hg.blk r b q h1 h2), s.hg.inj, by rw [f.size]; exact s.hg.base⟩
  size := by rw [f.size]; exact s.size
  frame := fun c hc hn => by rw [hf c (s.unmapped hc hn), s.frame c hc hn]
  new := s.new
  keep := s.keep
  old := s.old
  os := f.os.trans s.os
  tape := f.tape.trans s.tape
  output := f.output.trans s.output

theorem PStep.alloc {r : Nat} {b : B} {v : V} {v' : Value} {e : Nat} (s : PStep P base j0 h0 w0 j g N w) (M : Made P base j r b v w v' w' e) (hg : g r = some b) (hj : j r = none) (h1 : h0.next ≤ r) (h2 : r < N) :
    PStep P base j0 h0 w0 (upd j r ⟨w.heap.size, 0, e, none⟩) g N w' ∧ ren (upd j r ⟨w.heap.size, 0, e, none⟩) v = some v' := by
  have hx : Ext j (upd j r ⟨w.heap.size, 0, e, none⟩) := upd_ext hj
  obtain ⟨m1, m2⟩ := M.rel _ hx (upd_same _ _ _)
  refine ⟨?_, m1⟩
  exact {
    out := fun r' hr' => by rw [upd_other (by omega)]; exact s.out r' hr'
    hg := by
      refine ⟨fun r1 b1 q1 a1 a2 => ?_, fun r1 r2 b1 b2 q1 q2 a1 a2 a3 a4 a5 a6 a7 => ?_, by rw [M.size]; have := s.hg.base; omega⟩
      · by_cases e1 : r1 = r
        · subst e1; rw [upd_same] at a2; cases a2; rw [hg] at a1; cases a1; exact m2
        · rw [upd_other e1] at a2
          have hb := s.hg.blk r1 b1 q1 a1 a2
          exact (hb.ext hx).congr (M.heap _ (hb.lt s.hg.base))
      · by_cases e1 : r1 = r <;> by_cases e2 : r2 = r
        · rw [e1, e2]
        · subst e1
          rw [upd_same] at a3; cases a3
          rw [upd_other e2] at a4
          have := (s.hg.blk r2 b2 q2 a2 a4).lt s.hg.base
          simp only at a7; omega
        · subst e2
          rw [upd_same] at a4; cases a4
          rw [upd_other e1] at a3
          have := (s.hg.blk r1 b1 q1 a1 a3).lt s.hg.base
          simp only at a7; omega
        · rw [upd_other e1] at a3; rw [upd_other e2] at a4
          exact s.hg.inj r1 r2 b1 b2 q1 q2 a1 a2 a3 a4 a5 a6 a7
    size := by rw [M.size]; have := s.size; omega
    frame := fun c hc hn => by rw [M.heap c (by have := s.size; omega), s.frame c hc hn]
    new := fun r1 b1 q1 a1 a2 a3 a4 => by
      by_cases e1 : r1 = r
      · subst e1; rw [upd_same] at a4; cases a4; exact .inl s.size
      · rw [upd_other e1] at a4; exact s.new r1 b1 q1 a1 a2 a3 a4
    keep := s.keep
    old := s.old
    os := M.os.trans s.os
    tape := M.tape.trans s.tape
    output := M.output.trans s.output }

theorem HG.hrel (hg : HG P base j g w) (hb : Bd h) (hv : ∀ r, r < h.next → h.mem.get r = g r) : HRel P base j h w :=
  ⟨fun r b q h1 h2 => hg.blk r b q (by rw [← hv r (hb r b h1)]; exact h1) h2,
   fun r r' b b' q q' h1 h2 h3 h4 h5 h6 h7 => hg.inj r r' b b' q q' (by rw [← hv r (hb r b h1)]; exact h1) (by rw [← hv r' (hb r' b' h2)]; exact h2) h3 h4 h5 h6 h7,
   hb, hg.base⟩

theorem PStep.heavy (s : PStep P base j0 h0 w0 j g N w) (hb : Bd h) (hv : ∀ r, r < h.next → h.mem.get r = g r) (t : Step P base j h w j' h' w') (F : Fresh j h.next h'.next) (h1 : h0.next ≤ h.next) (h2 : h'.next ≤ N)
    (g1 : ∀ r, r < h'.next → g' r = h'.mem.get r) (g2 : ∀ r, h'.next ≤ r → g' r = g r) : PStep P base j0 h0 w0 j' g' N w' := by
  have mono := t.mono
  have hx := t.ext F
  have R : HRel P base j h w := s.hg.hrel hb hv
  have up : ∀ r b, h.mem.get r = some b → g r = some b := fun r b e => by rw [← hv r (hb r b e)]; exact e
  exact {
    out := fun r hr => by rw [t.out r (by omega)]; exact s.out r hr
    hg := by
      have far : ∀ r b q, h'.next ≤ r → g r = some b → j r = some q → (∀ r0 b0 q0, h.mem.get r0 = some b0 → b0.own = true → j r0 = some q0 → q0.c ≠ q.c) := by
        intro r b q hr a1 a2 r0 b0 q0 c1 c2 c3 e
        cases ho : b.own with
        | true =>
          have := s.hg.inj r0 r b0 b q0 q (up _ _ c1) a1 c3 a2 c2 ho e
          have := hb r0 b0 c1
          omega
        | false =>
          have hlow := (R.blk r0 b0 q0 c1 c3).ge c2
          have hb0 := s.hg.blk r b q a1 a2
          cases b with
          | mp _ _ => cases ho
          | it _ _ => cases ho
          | c l ty own =>
            have h3 := hb0.2
            rw [if_neg (by simp only [B.own] at ho; simp [ho])] at h3
            omega
      refine ⟨fun r b q a1 a2 => ?_, fun r1 r2 b1 b2 q1 q2 a1 a2 a3 a4 a5 a6 a7 => ?_, t.rel.base⟩
      · by_cases hr : r < h'.next
        · rw [g1 r hr] at a1; exact t.rel.blk r b q a1 a2
        · rw [g2 r (by omega)] at a1
          rw [t.out r (by omega)] at a2
          have hb0 := s.hg.blk r b q a1 a2
          exact (hb0.ext hx).congr (t.frame _ (hb0.lt s.hg.base) (far r b q (by omega) a1 a2))
      · have cross : ∀ r1 r2 b1 b2 q1 q2, g' r1 = some b1 → g' r2 = some b2 → j' r1 = some q1 → j' r2 = some q2 → b1.own = true → b2.own = true → q1.c = q2.c → r1 < h'.next → ¬ r2 < h'.next → False := by
          intro r1 r2 b1 b2 q1 q2 a1 a2 a3 a4 a5 a6 a7 l1 l2
          rw [g1 r1 l1] at a1
          rw [g2 r2 (by omega)] at a2
          rw [t.out r2 (by omega)] at a4
          have hlt := (s.hg.blk r2 b2 q2 a2 a4).lt s.hg.base
          have hfar := far r2 b2 q2 (by omega) a2 a4
          by_cases l3 : r1 < h.next
          · rw [t.out r1 (.inl l3)] at a3
            obtain ⟨b0, c1, c2⟩ := t.old r1 b1 l3 a1
            exact hfar r1 b0 q1 c1 (by rw [c2]; exact a5) a3 a7
          · rcases t.new r1 b1 q1 (by omega) a1 a5 a3 with c | ⟨r0, b0, q0, c1, c2, c3, c4⟩
            · omega
            · exact hfar r0 b0 q0 c1 c2 c3 (by omega)
        by_cases l1 : r1 < h'.next <;> by_cases l2 : r2 < h'.next
        · rw [g1 r1 l1] at a1; rw [g1 r2 l2] at a2
          exact t.rel.inj r1 r2 b1 b2 q1 q2 a1 a2 a3 a4 a5 a6 a7
        · exact (cross r1 r2 b1 b2 q1 q2 a1 a2 a3 a4 a5 a6 a7 l1 l2).elim
        · exact (cross r2 r1 b2 b1 q2 q1 a2 a1 a4 a3 a6 a5 a7.symm l2 l1).elim
        · rw [g2 r1 (by omega)] at a1; rw [g2 r2 (by omega)] at a2
          rw [t.out r1 (by omega)] at a3; rw [t.out r2 (by omega)] at a4
          exact s.hg.inj r1 r2 b1 b2 q1 q2 a1 a2 a3 a4 a5 a6 a7
    size := Nat.le_trans s.size t.size
    frame := fun c hc hn => by
      have hu := s.unmapped hc hn
      rw [t.frame c (by have := s.size; omega) fun r b q c1 c2 c3 => hu r b q (up _ _ c1) c2 c3, s.frame c hc hn]
    new := fun r b q hr a1 a2 a3 => by
      by_cases l1 : r < h'.next
      · rw [g1 r l1] at a1
        by_cases l2 : r < h.next
        · rw [t.out r (.inl l2)] at a3
          obtain ⟨b0, c1, c2⟩ := t.old r b l2 a1
          exact s.new r b0 q hr (up _ _ c1) (by rw [c2]; exact a2) a3
        · rcases t.new r b q (by omega) a1 a2 a3 with c | ⟨r0, b0, q0, c1, c2, c3, c4⟩
          · exact .inl (by have := s.size; omega)
          · by_cases l3 : r0 < h0.next
            · rw [s.out r0 (.inl l3)] at c3
              obtain ⟨b1, d1, d2⟩ := s.old r0 b0 l3 (up _ _ c1)
              exact .inr ⟨r0, b1, q0, d1, by rw [d2]; exact c2, c3, c4⟩
            · rcases s.new r0 b0 q0 (by omega) (up _ _ c1) c2 c3 with d | ⟨r1, b1, q1, d1, d2, d3, d4⟩
              · exact .inl (by omega)
              · exact .inr ⟨r1, b1, q1, d1, d2, d3, by omega⟩
      · rw [g2 r (by omega)] at a1
        rw [t.out r (by omega)] at a3
        exact s.new r b q hr a1 a2 a3
    keep := fun r hr hn => by
      rw [g1 r (by omega), t.keep r (by omega) (by rw [s.out r (.inl hr)]; exact hn), hv r (by omega)]
      exact s.keep r hr hn
    old := fun r b' hr a1 => by
      rw [g1 r (by omega)] at a1
      obtain ⟨b1, c1, c2⟩ := t.old r b' (by omega) a1
      obtain ⟨b0, d1, d2⟩ := s.old r b1 hr (up _ _ c1)
      exact ⟨b0, d1, by rw [d2, c2]⟩
    os := t.os.trans s.os
    tape := t.tape.trans s.tape
    output := t.output.trans s.output }

theorem PStep.finish (s : PStep P base j0 h0 w0 j g N w) (hb : Bd h) (hv : ∀ r, r < h.next → h.mem.get r = g r) (hN : N = h.next) (hm : h0.next ≤ h.next) : Step P base j0 h0 w0 j h w where
  mono := hm
  out := fun r hr => s.out r (by omega)
  rel := s.hg.hrel hb hv
  size := s.size
  frame := s.frame
  new := fun r b q a1 a2 a3 a4 => s.new r b q a1 (by rw [← hv r (hb r b a2)]; exact a2) a3 a4
  keep := fun r hr hn => by rw [hv r (by omega)]; exact s.keep r hr hn
  old := fun r b' hr a1 => s.old r b' hr (by rw [← hv r (by omega)]; exact a1)
  os := s.os
  tape := s.tape
  output := s.output

end

/-! ### The tmps -/

def dstOf (ops : Array Oper) (k : Nat) : Option Nat := (ops[k]?).bind (·.dst)

/-- What a tmp holds behind some operations, the last one first. -/
def envL (dst : Nat → Option Nat) (v : Nat → V) (e0 : Env) : List Nat → Nat → V
  | [], t => gv e0 t
  | k :: L, t => if dst k = some t then v k else envL dst v e0 L t

section
variable {P : Program} {call : FuncId → List V → H → Option (V × H)} {ops : Array Oper} {S : Nat → St} {v : Nat → V} {rs : List Rec}

theorem env_last (T0 : Trace P call ops.toList S v rs) (t : Nat) : ∀ i, i ≤ ops.size →
    (∃ k, k < i ∧ dstOf ops k = some t ∧ (∀ k', k < k' → k' < i → dstOf ops k' ≠ some t) ∧ gv (S i).e t = v k) ∨ ((∀ k, k < i → dstOf ops k ≠ some t) ∧ gv (S i).e t = gv (S 0).e t)
  | 0, _ => .inr ⟨fun k hk => by omega, rfl⟩
  | i + 1, h => by
    have ih := env_last T0 t i (by omega)
    have ho : ops.toList[i]? = some (ops[i]'(by omega)) := by rw [Array.getElem?_toList]; exact Array.getElem?_eq_getElem (by omega)
    have hd : dstOf ops i = (ops[i]'(by omega)).dst := by unfold dstOf; rw [Array.getElem?_eq_getElem (by omega)]; rfl
    have he := (T0.step i _ ho).e
    rw [he, gv_putD, ← hd]
    by_cases e : dstOf ops i = some t
    · rw [if_pos e]
      exact .inl ⟨i, by omega, e, fun k' h1 h2 => by omega, rfl⟩
    · rw [if_neg e]
      rcases ih with ⟨k, h1, h2, h3, h4⟩ | ⟨h1, h2⟩
      · refine .inl ⟨k, by omega, h2, fun k' c1 c2 => ?_, h4⟩
        by_cases ek : k' = i
        · subst ek; exact e
        · exact h3 k' c1 (by omega)
      · refine .inr ⟨fun k hk => ?_, h2⟩
        by_cases ek : k = i
        · subst ek; exact e
        · exact h1 k (by omega)

theorem envL_first {dst : Nat → Option Nat} {e0 : Env} {t : Nat} : ∀ (L : List Nat), L.Pairwise (fun a b => dst a = some t → dst b = some t → b < a) →
    (∃ k, k ∈ L ∧ dst k = some t ∧ envL dst v e0 L t = v k ∧ ∀ k' ∈ L, dst k' = some t → k' ≤ k) ∨ ((∀ k ∈ L, dst k ≠ some t) ∧ envL dst v e0 L t = gv e0 t)
  | [], _ => .inr ⟨by simp, rfl⟩
  | k :: L, h => by
    rw [List.pairwise_cons] at h
    simp only [envL]
    by_cases e : dst k = some t
    · rw [if_pos e]
      refine .inl ⟨k, by simp, e, rfl, fun k' hk' hd => ?_⟩
      rcases List.mem_cons.1 hk' with rfl | hk'
      · exact Nat.le_refl _
      · exact Nat.le_of_lt (h.1 k' hk' e hd)
    · rw [if_neg e]
      rcases envL_first L h.2 with ⟨k1, h1, h2, h3, h4⟩ | ⟨h1, h2⟩
      · refine .inl ⟨k1, by simp [h1], h2, h3, fun k' hk' hd => ?_⟩
        rcases List.mem_cons.1 hk' with rfl | hk'
        · exact absurd hd e
        · exact h4 k' hk' hd
      · refine .inr ⟨fun k' hk' => ?_, h2⟩
        rcases List.mem_cons.1 hk' with rfl | hk'
        · exact e
        · exact h1 k' hk'

theorem env_eq (T0 : Trace P call ops.toList S v rs) {t i : Nat} (hi : i ≤ ops.size) {L : List Nat} (h1 : ∀ k ∈ L, dstOf ops k = some t → k < i) (h2 : ∀ k, k < i → dstOf ops k = some t → k ∈ L)
    (hp : L.Pairwise (fun a b => dstOf ops a = some t → dstOf ops b = some t → b < a)) : envL (dstOf ops) v (S 0).e L t = gv (S i).e t := by
  rcases env_last T0 t i hi with ⟨k, a1, a2, a3, a4⟩ | ⟨a1, a2⟩ <;> rcases envL_first (v := v) (e0 := (S 0).e) L hp with ⟨k1, b1, b2, b3, b4⟩ | ⟨b1, b2⟩
  · have c1 := b4 k (h2 k a1 a2) a2
    have c2 := h1 k1 b1 b2
    have : k = k1 := by
      by_cases e : k = k1
      · exact e
      · exact absurd b2 (a3 k1 (by omega) c2)
    rw [b3, a4, this]
  · exact absurd a2 (b1 k (h2 k a1 a2))
  · exact absurd b2 (a1 k1 (h1 k1 b1 b2))
  · rw [a2, b2]

end
end Go.Am
