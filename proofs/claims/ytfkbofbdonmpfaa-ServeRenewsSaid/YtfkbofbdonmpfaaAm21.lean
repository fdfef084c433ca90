/- The abstract machine: a region in any order. What its run in the order of the text lays down. -/
import Derived.Test.YtfkbofbdonmpfaaAm20
set_option linter.unusedSimpArgs false
set_option linter.unusedVariables false
set_option linter.unusedSectionVars false
set_option linter.unnecessarySimpa false
namespace Go.Am
open Go.Instr

structure St where
  e : Env
  h : H
  en : T B
  hs : List (Nat × H)

def wantedAt (ops : List Oper) (S : Nat → St) (k : Nat) (o : Oper) : Prop := wantA (S k).e ops o = true

structure StepFact (P : Program) (call : FuncId → List V → H → Option (V × H)) (ops : List Oper) (k : Nat) (o : Oper) (s s' : St) (v : V) (rs : List Rec) : Prop where
  e : s'.e = putD s.e o.dst v
  no : wantA s.e ops o = false → v = undefV ∧ s'.h = s.h ∧ s'.en = s.en ∧ s'.hs = s.hs
  yes : wantA s.e ops o = true → op1 (mkX P) call s.e s.h o = some (v, s'.h)
  p : wantA s.e ops o = true → cls (mkX P) o = .p → s'.en = s.en ∧ s'.hs = s.hs
  r : wantA s.e ops o = true → cls (mkX P) o = .r → s'.en = s.en ∧ s'.hs = s.hs ∧ (⟨k, o, s.e, v⟩ : Rec) ∈ rs
  n : wantA s.e ops o = true → cls (mkX P) o = .n → s'.en = s.en.put s.h.next (s'.h.mem.get s.h.next) ∧ s'.hs = s.hs
  h : wantA s.e ops o = true → heavyC (mkX P) o = true → s'.en = s.en ∧ s'.hs = (k, s'.h) :: s.hs

section
variable {P : Program} {call : FuncId → List V → H → Option (V × H)} {ops : List Oper}

theorem StepFact.mono {k : Nat} {o : Oper} {s s' : St} {v : V} {rs rs' : List Rec} (f : StepFact P call ops k o s s' v rs) (h : ∀ r ∈ rs, r ∈ rs') : StepFact P call ops k o s s' v rs' :=
  { f with r := fun a b => let ⟨x, y, z⟩ := f.r a b; ⟨x, y, h _ z⟩ }

theorem drawR_trace : ∀ (l : List Oper) (ix : Nat) (e e' : Env) (h h' : H) (en en' : T B) (rs rs' : List Rec) (hs hs' : List (Nat × H)), drawR (mkX P) call ops l ix e h en rs hs = some (e', h', en', rs', hs') →
    ∃ (S : Nat → St) (v : Nat → V), S ix = ⟨e, h, en, hs⟩ ∧ S (ix + l.length) = ⟨e', h', en', hs'⟩ ∧ (∀ r ∈ rs, r ∈ rs') ∧ ∀ i o, l[i]? = some o → StepFact P call ops (ix + i) o (S (ix + i)) (S (ix + i + 1)) (v (ix + i)) rs'
  | [], ix, e, e', h, h', en, en', rs, rs', hs, hs', hh => by
    simp only [drawR, Option.some.injEq, Prod.mk.injEq] at hh
    obtain ⟨rfl, rfl, rfl, rfl, rfl⟩ := hh
    exact ⟨fun _ => ⟨e, h, en, hs⟩, fun _ => undefV, rfl, rfl, fun _ h => h, fun i o hi => by simp at hi⟩
  | o :: l, ix, e, e', h, h', en, en', rs, rs', hs, hs', hh => by
    have go : ∀ (v0 : V) (h1 : H) (en1 : T B) (rs1 : List Rec) (hs1 : List (Nat × H)), drawR (mkX P) call ops l (ix + 1) (putD e o.dst v0) h1 en1 rs1 hs1 = some (e', h', en', rs', hs') → (∀ r ∈ rs, r ∈ rs1) →
        StepFact P call ops ix o ⟨e, h, en, hs⟩ ⟨putD e o.dst v0, h1, en1, hs1⟩ v0 rs1 →
        ∃ (S : Nat → St) (v : Nat → V), S ix = ⟨e, h, en, hs⟩ ∧ S (ix + (o :: l).length) = ⟨e', h', en', hs'⟩ ∧ (∀ r ∈ rs, r ∈ rs') ∧ ∀ i o', (o :: l)[i]? = some o' → StepFact P call ops (ix + i) o' (S (ix + i)) (S (ix + i + 1)) (v (ix + i)) rs' := by
      intro v0 h1 en1 rs1 hs1 hd hr hf
      obtain ⟨S, v, s1, s2, s3, s4⟩ := drawR_trace l (ix + 1) _ _ _ _ _ _ _ _ _ _ hd
      refine ⟨fun k => if k = ix then ⟨e, h, en, hs⟩ else S k, fun k => if k = ix then v0 else v k, by simp, ?_, fun r hr' => s3 r (hr r hr'), ?_⟩
      · simp only [List.length_cons]
        rw [if_neg (by omega), show ix + (l.length + 1) = ix + 1 + l.length by omega]; exact s2
      · intro i o' hi
        cases i with
        | zero =>
          simp only [List.getElem?_cons_zero, Option.some.injEq] at hi; subst hi
          simp only [Nat.add_zero, if_true]
          rw [if_neg (by omega), s1]
          exact hf.mono s3
        | succ i =>
          simp only []
          rw [if_neg (by omega), if_neg (by omega), if_neg (by omega), show ix + (i + 1) = ix + 1 + i by omega]
          exact s4 i o' (by simpa using hi)
    simp only [drawR] at hh
    cases hw : wantA e ops o with
    | false =>
      rw [hw] at hh
      simp only [cond_false, T.seq_eq] at hh
      have no : ∀ {p : Prop}, wantA e ops o = true → p := fun h => by rw [hw] at h; cases h
      exact go _ _ _ _ _ hh (fun _ h => h) ⟨rfl, fun _ => ⟨rfl, rfl, rfl, rfl⟩, no, no, no, no, no⟩
    | true =>
      rw [hw] at hh
      simp only [cond_true] at hh
      have no : ∀ {p : Prop}, wantA e ops o = false → p := fun h => by rw [hw] at h; cases h
      cases ho : op1 (mkX P) call e h o with
      | none => rw [ho] at hh; cases hh
      | some p =>
        obtain ⟨v0, h1⟩ := p
        rw [ho] at hh
        simp only [fV_eq, T.seq_eq] at hh
        cases hc : cls (mkX P) o <;> rw [hc] at hh <;> simp only [T.seq_eq] at hh
        · exact go _ _ _ _ _ hh (fun _ h => h) ⟨rfl, no, fun _ => ho, fun _ _ => ⟨rfl, rfl⟩, fun _ h => (by rw [hc] at h; cases h), fun _ h => (by rw [hc] at h; cases h), fun _ h => (by simp [heavyC, hc] at h)⟩
        · exact go _ _ _ _ _ hh (fun _ h => by simp [h]) ⟨rfl, no, fun _ => ho, fun _ h => (by rw [hc] at h; cases h), fun _ _ => ⟨rfl, rfl, by simp⟩, fun _ h => (by rw [hc] at h; cases h), fun _ h => (by simp [heavyC, hc] at h)⟩
        · exact go _ _ _ _ _ hh (fun _ h => h) ⟨rfl, no, fun _ => ho, fun _ h => (by rw [hc] at h; cases h), fun _ h => (by rw [hc] at h; cases h), fun _ _ => ⟨rfl, rfl⟩, fun _ h => (by simp [heavyC, hc] at h)⟩
        · exact go _ _ _ _ _ hh (fun _ h => h) ⟨rfl, no, fun _ => ho, fun _ h => (by rw [hc] at h; cases h), fun _ h => (by rw [hc] at h; cases h), fun _ h => (by rw [hc] at h; cases h), fun _ _ => ⟨rfl, rfl⟩⟩
        · exact go _ _ _ _ _ hh (fun _ h => h) ⟨rfl, no, fun _ => ho, fun _ h => (by rw [hc] at h; cases h), fun _ h => (by rw [hc] at h; cases h), fun _ h => (by rw [hc] at h; cases h), fun _ _ => ⟨rfl, rfl⟩⟩

/-- The run in the order of the text. -/
structure Trace (P : Program) (call : FuncId → List V → H → Option (V × H)) (ops : List Oper) (S : Nat → St) (v : Nat → V) (rs : List Rec) : Prop where
  en0 : (S 0).en = .l
  hs0 : (S 0).hs = []
  step : ∀ i o, ops[i]? = some o → StepFact P call ops i o (S i) (S (i + 1)) (v i) rs

def viewOf (hb : H) (en : T B) (r : Nat) : Option B := bif Nat.blt r hb.next then hb.mem.get r else en.get r

theorem viewOf_lt {hb : H} {en : T B} {r : Nat} (h : r < hb.next) : viewOf hb en r = hb.mem.get r := by
  unfold viewOf; rw [show Nat.blt r hb.next = true from Nat.ble_eq_true_of_le h]; rfl
theorem viewOf_ge {hb : H} {en : T B} {r : Nat} (h : hb.next ≤ r) : viewOf hb en r = en.get r := by
  unfold viewOf
  cases hb' : Nat.blt r hb.next with
  | true => have := Nat.le_of_ble_eq_true hb'; omega
  | false => rfl

/-- The heap behind the last write, or the first one. -/
def hbOf (h0 : H) : List (Nat × H) → H
  | [] => h0
  | (_, h) :: _ => h

namespace Trace
variable {S : Nat → St} {v : Nat → V} {rs : List Rec} (T0 : Trace P call ops S v rs) (G : CallGd call)
include T0

theorem cls_op {i : Nat} {o : Oper} (ho : ops[i]? = some o) (hw : wantA (S i).e ops o = true) (hc : cls (mkX P) o = .n) : ∃ b, opN (mkX P) (S i).e (S i).h.next o = some (b, v i) ∧ (S (i + 1)).h = ⟨(S i).h.next + 1, (S i).h.mem.put (S i).h.next (some b)⟩ := by
  have := (T0.step i o ho).yes hw
  unfold op1 at this
  rw [hc] at this
  simp only at this
  split at this
  · rename_i b v1 hp
    simp only [newB, fN_eq, T.seq_eq, Option.some.injEq, Prod.mk.injEq] at this
    obtain ⟨rfl, h2⟩ := this
    exact ⟨b, hp, h2.symm⟩
  · cases this

theorem soft_op {i : Nat} {o : Oper} (ho : ops[i]? = some o) (hw : wantA (S i).e ops o = true) (hc : cls (mkX P) o = .p ∨ cls (mkX P) o = .r) : (S (i + 1)).h = (S i).h := by
  have := (T0.step i o ho).yes hw
  unfold op1 at this
  rcases hc with hc | hc <;> rw [hc] at this <;> simp only at this <;> split at this <;> simp only [Option.some.injEq, Prod.mk.injEq, reduceCtorEq] at this
  · exact this.2.symm
  · exact this.2.symm

include G in
theorem gd1 {i : Nat} (hi : i < ops.length) : Gd (S i).h (S (i + 1)).h := by
  have ho : ops[i]? = some ops[i] := List.getElem?_eq_getElem hi
  have f := T0.step i _ ho
  cases hw : wantA (S i).e ops ops[i] with
  | false => rw [(f.no hw).2.1]; exact Gd.refl _
  | true => exact gd_op1 G (f.yes hw)

include G in
theorem gd : ∀ (k i : Nat), i + k ≤ ops.length → Gd (S i).h (S (i + k)).h
  | 0, i, _ => Gd.refl _
  | k + 1, i, h => (gd k i (by omega)).trans (by have := T0.gd1 G (i := i + k) (by omega); rwa [show i + k + 1 = i + (k + 1) by omega] at this)

include G in
theorem mono {i k : Nat} (h : i ≤ k) (hk : k ≤ ops.length) : (S i).h.next ≤ (S k).h.next := by
  have := (T0.gd G (k - i) i (by omega)).1
  rwa [show i + (k - i) = k by omega] at this

include G in
theorem bd {k : Nat} (h : Bd (S 0).h) (hk : k ≤ ops.length) : Bd (S k).h := by
  have := (T0.gd G k 0 (by omega)).2 h
  rwa [Nat.zero_add] at this

/-- Four ways of an operation. -/
theorem ways {i : Nat} {o : Oper} (ho : ops[i]? = some o) :
    ((S (i + 1)).h = (S i).h ∧ (S (i + 1)).en = (S i).en ∧ (S (i + 1)).hs = (S i).hs) ∨
    (∃ b, (S (i + 1)).h = ⟨(S i).h.next + 1, (S i).h.mem.put (S i).h.next (some b)⟩ ∧ (S (i + 1)).en = (S i).en.put (S i).h.next (some b) ∧ (S (i + 1)).hs = (S i).hs) ∨
    ((S (i + 1)).en = (S i).en ∧ (S (i + 1)).hs = (i, (S (i + 1)).h) :: (S i).hs ∧ wantA (S i).e ops o = true ∧ heavyC (mkX P) o = true) := by
  have f := T0.step i o ho
  cases hw : wantA (S i).e ops o with
  | false => exact .inl (f.no hw).2
  | true =>
    cases hc : cls (mkX P) o with
    | p => exact .inl ⟨T0.soft_op ho hw (.inl hc), f.p hw hc⟩
    | r => exact .inl ⟨T0.soft_op ho hw (.inr hc), (f.r hw hc).1, (f.r hw hc).2.1⟩
    | n =>
      obtain ⟨b, _, h2⟩ := T0.cls_op ho hw hc
      refine .inr (.inl ⟨b, h2, ?_, (f.n hw hc).2⟩)
      rw [(f.n hw hc).1, h2]
      simp only [T.get_put, if_true]
    | h => exact .inr (.inr ⟨(f.h hw (by simp [heavyC, hc])).1, (f.h hw (by simp [heavyC, hc])).2, rfl, by simp [heavyC, hc]⟩)
    | call => exact .inr (.inr ⟨(f.h hw (by simp [heavyC, hc])).1, (f.h hw (by simp [heavyC, hc])).2, rfl, by simp [heavyC, hc]⟩)

include G in
theorem en_stable : ∀ (d i : Nat), i + d ≤ ops.length → ∀ r, r < (S i).h.next → (S (i + d)).en.get r = (S i).en.get r
  | 0, i, _, r, _ => rfl
  | d + 1, i, h, r, hr => by
    have ih := en_stable d i (by omega) r hr
    have hlt : i + d < ops.length := by omega
    have ho : ops[i + d]? = some ops[i + d] := List.getElem?_eq_getElem hlt
    have m := T0.mono G (i := i) (k := i + d) (by omega) (by omega)
    rw [show i + (d + 1) = i + d + 1 by omega]
    rcases T0.ways ho with ⟨_, e, _⟩ | ⟨b, _, e, _⟩ | ⟨e, _⟩
    · rw [e, ih]
    · rw [e, T.get_put, if_neg (by omega), ih]
    · rw [e, ih]

theorem view_now : ∀ k, k ≤ ops.length → (hbOf (S 0).h (S k).hs).next ≤ (S k).h.next ∧ ∀ r, r < (S k).h.next → (S k).h.mem.get r = viewOf (hbOf (S 0).h (S k).hs) (S k).en r
  | 0, _ => by
    rw [T0.hs0]
    exact ⟨Nat.le_refl _, fun r hr => (viewOf_lt hr).symm⟩
  | k + 1, h => by
    obtain ⟨ih1, ih2⟩ := view_now k (by omega)
    have ho : ops[k]? = some (ops[k]'(by omega)) := List.getElem?_eq_getElem (by omega)
    rcases T0.ways ho with ⟨e1, e2, e3⟩ | ⟨b, e1, e2, e3⟩ | ⟨e2, e3, _⟩
    · rw [e1, e2, e3]; exact ⟨ih1, ih2⟩
    · rw [e1, e2, e3]
      refine ⟨Nat.le_trans ih1 (Nat.le_succ _), fun r hr => ?_⟩
      simp only [T.get_put]
      by_cases e : (S k).h.next = r
      · subst e; rw [if_pos rfl, viewOf_ge ih1]; simp only [T.get_put, if_true]
      · rw [if_neg e, ih2 r (by simp only at hr; omega)]
        by_cases hlt : r < (hbOf (S 0).h (S k).hs).next
        · rw [viewOf_lt hlt, viewOf_lt hlt]
        · rw [viewOf_ge (by omega), viewOf_ge (by omega)]; simp only [T.get_put, if_neg e]
    · rw [e2, e3]
      exact ⟨Nat.le_refl _, fun r hr => (viewOf_lt hr).symm⟩

include G in
theorem view {k : Nat} (hk : k ≤ ops.length) {r : Nat} (hr : r < (S k).h.next) : (S k).h.mem.get r = viewOf (hbOf (S 0).h (S k).hs) (S ops.length).en r := by
  obtain ⟨h1, h2⟩ := T0.view_now k hk
  rw [h2 r hr]
  by_cases hlt : r < (hbOf (S 0).h (S k).hs).next
  · rw [viewOf_lt hlt, viewOf_lt hlt]
  · rw [viewOf_ge (by omega), viewOf_ge (by omega)]
    have := T0.en_stable G (ops.length - k) k (by omega) r hr
    rw [show k + (ops.length - k) = ops.length by omega] at this
    exact this.symm

/-- No write or call between two places: the same list of heaps. -/
theorem hs_const : ∀ (d m : Nat), m + d ≤ ops.length → (∀ k o, m ≤ k → k < m + d → ops[k]? = some o → ¬ (wantA (S k).e ops o = true ∧ heavyC (mkX P) o = true)) → (S (m + d)).hs = (S m).hs
  | 0, m, _, _ => rfl
  | d + 1, m, h, hn => by
    have ih := hs_const d m (by omega) (fun k o h1 h2 => hn k o h1 (by omega))
    have ho : ops[m + d]? = some (ops[m + d]'(by omega)) := List.getElem?_eq_getElem (by omega)
    rw [show m + (d + 1) = m + d + 1 by omega]
    rcases T0.ways ho with ⟨_, _, e⟩ | ⟨b, _, _, e⟩ | ⟨_, _, e⟩
    · rw [e, ih]
    · rw [e, ih]
    · exact absurd e (hn _ _ (by omega) (by omega) ho)

/-- The list of heaps at the end is a longer one than any before. -/
theorem hs_split : ∀ (d m : Nat), m + d ≤ ops.length → ∃ rest, (S (m + d)).hs = rest ++ (S m).hs ∧ ∀ p ∈ rest, m ≤ p.1 ∧ p.1 < m + d ∧ ∃ o, ops[p.1]? = some o ∧ wantA (S p.1).e ops o = true ∧ heavyC (mkX P) o = true
  | 0, m, _ => ⟨[], rfl, by simp⟩
  | d + 1, m, h => by
    obtain ⟨rest, e1, e2⟩ := hs_split d m (by omega)
    have ho : ops[m + d]? = some (ops[m + d]'(by omega)) := List.getElem?_eq_getElem (by omega)
    rw [show m + (d + 1) = m + d + 1 by omega]
    have up : ∀ p ∈ rest, m ≤ p.1 ∧ p.1 < m + d + 1 ∧ ∃ o, ops[p.1]? = some o ∧ wantA (S p.1).e ops o = true ∧ heavyC (mkX P) o = true := fun p hp => ⟨(e2 p hp).1, by have := (e2 p hp).2.1; omega, (e2 p hp).2.2⟩
    rcases T0.ways ho with ⟨_, _, e⟩ | ⟨b, _, _, e⟩ | ⟨_, e, e3⟩
    · exact ⟨rest, by rw [e, e1], up⟩
    · exact ⟨rest, by rw [e, e1], up⟩
    · refine ⟨(m + d, (S (m + d + 1)).h) :: rest, by rw [e, e1]; rfl, fun p hp => ?_⟩
      rcases List.mem_cons.1 hp with rfl | hp
      · exact ⟨by simp, by simp, _, ho, e3⟩
      · exact up p hp

end Trace

/-! ### Reads that stand -/

theorem nbeq {a b : Nat} : (Nat.beq a b = true) = (a = b) := propext ⟨Nat.eq_of_beq_eq_true, fun h => by subst h; exact Nat.beq_refl a⟩

mutual
theorem sameV_eq : ∀ (a b : V), sameV a b = true → a = b
  | .b x, b, h => by cases b <;> simp only [sameV, Bool.false_eq_true, beq_iff_eq] at h; rw [h]
  | .i k n, b, h => by cases b <;> simp only [sameV, Bool.false_eq_true, Bool.and_eq_true, beq_iff_eq] at h; rw [h.1, h.2]
  | .s l, b, h => by cases b <;> simp only [sameV, Bool.false_eq_true, beq_iff_eq] at h; rw [h]
  | .np, b, h => by cases b <;> simp only [sameV, Bool.false_eq_true] at h; rfl
  | .ns, b, h => by cases b <;> simp only [sameV, Bool.false_eq_true] at h; rfl
  | .nm, b, h => by cases b <;> simp only [sameV, Bool.false_eq_true] at h; rfl
  | .nf, b, h => by cases b <;> simp only [sameV, Bool.false_eq_true] at h; rfl
  | .ni, b, h => by cases b <;> simp only [sameV, Bool.false_eq_true] at h; rfl
  | .p r o, b, h => by cases b <;> simp only [sameV, Bool.false_eq_true, Bool.and_eq_true, nbeq] at h; rw [h.1, h.2]
  | .sl r o n c e, b, h => by cases b <;> simp only [sameV, Bool.false_eq_true, Bool.and_eq_true, nbeq, beq_iff_eq] at h; obtain ⟨⟨⟨⟨h1, h2⟩, h3⟩, h4⟩, h5⟩ := h; rw [h1, h2, h3, h4, h5]
  | .ze r, b, h => by cases b <;> simp only [sameV, Bool.false_eq_true, nbeq] at h; rw [h]
  | .se r o p, b, h => by cases b <;> simp only [sameV, Bool.false_eq_true, Bool.and_eq_true, nbeq] at h; rw [h.1.1, h.1.2, h.2]
  | .m r, b, h => by cases b <;> simp only [sameV, Bool.false_eq_true, nbeq] at h; rw [h]
  | .f g cs, b, h => by cases b <;> simp only [sameV, Bool.false_eq_true, Bool.and_eq_true, nbeq] at h; rw [h.1, sameVs_eq cs _ h.2]
  | .ic t v, b, h => by cases b <;> simp only [sameV, Bool.false_eq_true, Bool.and_eq_true, nbeq] at h; rw [h.1, sameV_eq v _ h.2]
  | .a l, b, h => by cases b <;> simp only [sameV, Bool.false_eq_true] at h; rw [sameVs_eq l _ h]
  | .t l, b, h => by cases b <;> simp only [sameV, Bool.false_eq_true] at h; rw [sameVs_eq l _ h]
theorem sameVs_eq : ∀ (a b : List V), sameVs a b = true → a = b
  | [], b, h => by cases b <;> simp only [sameVs, Bool.false_eq_true] at h; rfl
  | v :: l, b, h => by cases b <;> simp only [sameVs, Bool.false_eq_true, Bool.and_eq_true] at h; rw [sameV_eq v _ h.1, sameVs_eq l _ h.2]
end

theorem again_spec {ps : List Nat} {en : T B} {h0 : H} {r : Rec} : ∀ (rest done : List (Nat × H)) (nx : Option Nat), stands (mkX P) ps en h0 r nx (rest ++ done) = true →
    (∀ p, done.head? = some p → (ps.getD p.1 0).testBit r.ix = false) →
    (∀ k, (match rest.getLast? with | some p => some p.1 | none => nx) = some k → (ps.getD r.ix 0).testBit k = false) →
    opR (mkX P) r.e (viewOf (hbOf h0 done) en) r.o = some r.v
  | [], done, nx, h, h1, h2 => by
    simp only [List.nil_append] at h
    have fin : ∀ hb, stands.okAt (mkX P) ps en r nx hb = true → opR (mkX P) r.e (viewOf hb en) r.o = some r.v := by
      intro hb ha
      have hag : stands.again (mkX P) en r hb = true := by
        unfold stands.okAt at ha
        cases nx with
        | none => exact ha
        | some k =>
          have := h2 k rfl
          simp only [this, cond_false] at ha
          exact ha
      unfold stands.again at hag
      have hv : (fun k => bif Nat.blt k hb.next then hb.mem.get k else en.get k) = viewOf hb en := rfl
      rw [hv] at hag
      cases ho : opR (mkX P) r.e (viewOf hb en) r.o with
      | none => rw [ho] at hag; cases hag
      | some v => rw [ho] at hag; rw [sameV_eq _ _ hag]
    cases done with
    | nil => exact fin _ (by unfold stands at h; exact h)
    | cons p done =>
      obtain ⟨k, hb⟩ := p
      unfold stands at h
      have := h1 (k, hb) rfl
      simp only [this, cond_false, Bool.and_eq_true] at h
      exact fin _ h.1
  | (k, hb) :: rest, done, nx, h, h1, h2 => by
    simp only [List.cons_append] at h
    unfold stands at h
    simp only [Bool.and_eq_true] at h
    refine again_spec rest done (some k) h.2 h1 fun k' hk' => h2 k' ?_
    cases rest with
    | nil => simpa using hk'
    | cons p rest =>
      rw [List.getLast?_cons_cons]
      rw [List.getLast?_eq_some_getLast (List.cons_ne_nil p rest)] at hk' ⊢
      exact hk'

end
end Go.Am
