/- The abstract machine: how its heap stands to the model's memory, and what a step keeps. -/
import Derived.Test.YtfkbofbdonmpfaaAm4
import Derived.Below
import Derived.Laws.Cells
set_option linter.unusedSimpArgs false
set_option linter.unusedVariables false
set_option linter.unusedSectionVars false
set_option linter.unnecessarySimpa false
namespace Go.Am
open Go.RowKit (Below)

/-! ## What the tables say of the program -/

structure TIok (P : Program) (t : TypeId) (i : TI) where
  info : TypeInfo
  d : TypeDesc
  z : Value
  hi : P.info? t = some info
  hd : P.underlying t = some d
  hz : info.zero = some z
  okz : okVal 8 z = true
  szz : (cellsOfV (ofVal z)).length = info.size
  fok : fieldsOk P d = true
  eq : i = ⟨kOf P d, info.size, info.bytes, aggD d, flatT P 12 t, cellsOfV (ofVal z), ofVal z⟩

theorem tiOf_ok {P : Program} {t : TypeId} {i : TI} (h : tiOf P t = some i) : Nonempty (TIok P t i) := by
  unfold tiOf at h
  cases h1 : P.info? t with
  | none => simp [h1] at h
  | some info =>
    cases h2 : P.underlying t with
    | none => simp [h1, h2] at h
    | some d =>
      cases h3 : info.zero with
      | none => simp [h1, h2, h3] at h
      | some z =>
        simp only [h1, h2, h3] at h
        cases h4 : okVal 8 z && Nat.beq (cellsOfV (ofVal z)).length info.size && fieldsOk P d with
        | false => simp [h4] at h
        | true =>
          simp only [h4, cond_true, Option.some.injEq] at h
          simp only [Bool.and_eq_true] at h4
          exact ⟨⟨info, d, z, h1, h2, h3, h4.1.1, Nat.eq_of_beq_eq_true h4.1.2, h4.2, h.symm⟩⟩

theorem putL_get {α : Type} (f : Nat → Option α) : ∀ (k i : Nat) (t : T α) (j : Nat), (putL f k i t).get j = if i ≤ j ∧ j < i + k then (if (f j).isSome then f j else t.get j) else t.get j
  | 0, i, t, j => by simp only [putL]; rw [if_neg (by omega)]
  | k + 1, i, t, j => by
    have ih := putL_get f k (i + 1)
    simp only [putL]
    by_cases h : i + 1 ≤ j ∧ j < i + 1 + k
    · have h2 : i ≤ j ∧ j < i + (k + 1) := by omega
      have hne : ¬ i = j := by omega
      cases hf : f i with
      | none => simp only [ih, if_pos h, if_pos h2]
      | some v => simp only [T.seq_eq, ih, if_pos h, if_pos h2, T.get_put, if_neg hne]
    · by_cases h' : i = j
      · subst h'
        have h2 : i ≤ i ∧ i < i + (k + 1) := by omega
        cases hf : f i with
        | none => simp only [ih, if_neg h, if_pos h2, hf]; rfl
        | some v => simp only [T.seq_eq, ih, if_neg h, if_pos h2, T.get_put, hf, if_true]; rfl
      · have h2 : ¬ (i ≤ j ∧ j < i + (k + 1)) := by omega
        cases hf : f i with
        | none => simp only [ih, if_neg h, if_neg h2]
        | some v => simp only [T.seq_eq, ih, if_neg h, if_neg h2, T.get_put, if_neg h']

theorem mkX_tt {P : Program} {t : TypeId} {i : TI} (h : (mkX P).tt.get t = some i) : tiOf P t = some i := by
  simp only [mkX, putL_get] at h
  split at h
  · split at h
    · exact h
    · simp [T.get] at h
  · simp [T.get] at h

theorem mkX_ft {P : Program} {f : FuncId} {fn : Func} (h : (mkX P).ft.get f = some fn) : P.funcs[f]? = some fn := by
  simp only [mkX, putL_get] at h
  split at h
  · split at h
    · exact h
    · simp [T.get] at h
  · simp [T.get] at h

theorem ti_ok {P : Program} {α : Type} {t : TypeId} {k : TI → Option α} {v : α} (h : ti (mkX P) t k = some v) : ∃ i, Nonempty (TIok P t i) ∧ k i = some v := by
  unfold ti at h
  cases hg : (mkX P).tt.get t with
  | none => rw [hg] at h; cases h
  | some i => rw [hg] at h; exact ⟨i, tiOf_ok (mkX_tt hg), h⟩

/-! ## The relation -/

def CellsRel (j : Inj) (q : J) (l : List V) (w : World) : Prop := ∀ (i : Nat) (u : V), l[i]? = some u → ∃ u', w.cell? ⟨q.c, q.d + i, none⟩ = some u' ∧ ren j u = some u'

def renE (j : Inj) : List (V × V × Nat) → Option (List MapEntry)
  | [] => some []
  | (k, v, b) :: l => match ren j k, ren j v, renE j l with
    | some k', some v', some l' => some (⟨k', v', b⟩ :: l')
    | _, _, _ => none

def B.own : B → Bool
  | .c _ _ o => o
  | _ => true

def BRel (P : Program) (j : Inj) (base : Nat) (q : J) (b : B) (w : World) : Prop := match b with
  | .c l ty own => CellsRel j q l w ∧ (if own = true then base ≤ q.c ∧ ∃ cs fr, w.heap[q.c]? = some (.cells cs ty fr) ∧ (fr.1 = fr.2 ∨ cs.size ≤ fr.1) ∧ q.d + l.length + q.e * P.cellsOf ty ≤ cs.size else q.c < base)
  | .mp es clock => base ≤ q.c ∧ q.d = 0 ∧ ∃ es', w.heap[q.c]? = some (.map es' clock) ∧ renE j es = some es'.toList
  | .it s pos => base ≤ q.c ∧ q.d = 0 ∧ w.heap[q.c]? = some (.stringIter ⟨⟨s⟩⟩ pos)

structure HRel (P : Program) (base : Nat) (j : Inj) (h : H) (w : World) : Prop where
  blk : ∀ r b q, h.mem.get r = some b → j r = some q → BRel P j base q b w
  inj : ∀ r r' b b' q q', h.mem.get r = some b → h.mem.get r' = some b' → j r = some q → j r' = some q' → b.own = true → b'.own = true → q.c = q'.c → r = r'
  next : ∀ r b, h.mem.get r = some b → r < h.next
  base : base ≤ w.heap.size

theorem renE_ext {j j' : Inj} (h : Ext j j') : ∀ (l : List (V × V × Nat)) {l' : List MapEntry}, renE j l = some l' → renE j' l = some l'
  | [], _, e => by simpa [renE] using e
  | (k, v, b) :: l, l', e => by
    simp only [renE] at e ⊢
    cases k1 : ren j k with
    | none => rw [k1] at e; cases e
    | some k1' =>
      cases k2 : ren j v with
      | none => rw [k1, k2] at e; cases e
      | some k2' =>
        cases k3 : renE j l with
        | none => rw [k1, k2, k3] at e; cases e
        | some k3' => rw [ren_ext h k k1, ren_ext h v k2, renE_ext h l k3]; rw [k1, k2, k3] at e; exact e

theorem BRel.ext {P : Program} {j j' : Inj} {base : Nat} {q : J} {b : B} {w : World} (hj : Ext j j') (h : BRel P j base q b w) : BRel P j' base q b w := by
  cases b with
  | c l ty own =>
    refine ⟨fun i u hu => ?_, h.2⟩
    obtain ⟨u', hc, hr⟩ := h.1 i u hu
    exact ⟨u', hc, ren_ext hj u hr⟩
  | mp es clock =>
    obtain ⟨a, b, es', hm, he⟩ := h
    exact ⟨a, b, es', hm, renE_ext hj _ he⟩
  | it s pos => exact h

theorem cell?_congr {w w' : World} {c : Nat} (h : w'.heap[c]? = w.heap[c]?) (o : Nat) : w'.cell? ⟨c, o, none⟩ = w.cell? ⟨c, o, none⟩ := by
  simp only [World.cell?, h]

theorem BRel.congr {P : Program} {j : Inj} {base : Nat} {q : J} {b : B} {w w' : World} (hw : w'.heap[q.c]? = w.heap[q.c]?) (h : BRel P j base q b w) : BRel P j base q b w' := by
  cases b with
  | c l ty own =>
    refine ⟨fun i u hu => ?_, ?_⟩
    · obtain ⟨u', hc, hr⟩ := h.1 i u hu
      exact ⟨u', by rw [cell?_congr hw]; exact hc, hr⟩
    · have := h.2
      split at this
      · rename_i ho
        rw [if_pos ho]
        obtain ⟨h1, cs, fr, h2, h3⟩ := this
        exact ⟨h1, cs, fr, by rw [hw]; exact h2, h3⟩
      · rename_i ho
        rw [if_neg ho]; exact this
  | mp es clock =>
    obtain ⟨a, b, es', hm, he⟩ := h
    exact ⟨a, b, es', by rw [hw]; exact hm, he⟩
  | it s pos => exact ⟨h.1, h.2.1, by rw [hw]; exact h.2.2⟩

theorem BRel.lt {P : Program} {j : Inj} {base : Nat} {q : J} {b : B} {w : World} (h : BRel P j base q b w) (hb : base ≤ w.heap.size) : q.c < w.heap.size := by
  have key : ∀ o, w.heap[q.c]? = some o → q.c < w.heap.size := fun o ho => (Array.getElem?_eq_some_iff.1 ho).1
  cases b with
  | c l ty own =>
    have := h.2
    split at this
    · obtain ⟨_, cs, fr, h2, _⟩ := this; exact key _ h2
    · omega
  | mp es clock => obtain ⟨_, _, es', hm, _⟩ := h; exact key _ hm
  | it s pos => exact key _ h.2.2

theorem BRel.ge {P : Program} {j : Inj} {base : Nat} {q : J} {b : B} {w : World} (h : BRel P j base q b w) (ho : b.own = true) : base ≤ q.c := by
  cases b with
  | c l ty own => have := h.2; rw [if_pos (show own = true from ho)] at this; exact this.1
  | mp es clock => exact h.1
  | it s pos => exact h.1

/-! ## A step -/

structure Step (P : Program) (base : Nat) (j : Inj) (h : H) (w : World) (j' : Inj) (h' : H) (w' : World) : Prop where
  mono : h.next ≤ h'.next
  out : ∀ r, (r < h.next ∨ h'.next ≤ r) → j' r = j r
  rel : HRel P base j' h' w'
  size : w.heap.size ≤ w'.heap.size
  frame : ∀ c, c < w.heap.size → (∀ r b q, h.mem.get r = some b → b.own = true → j r = some q → q.c ≠ c) → w'.heap[c]? = w.heap[c]?
  new : ∀ r b q, h.next ≤ r → h'.mem.get r = some b → b.own = true → j' r = some q → w.heap.size ≤ q.c ∨ ∃ r0 b0 q0, h.mem.get r0 = some b0 ∧ b0.own = true ∧ j r0 = some q0 ∧ q0.c = q.c
  keep : ∀ r, r < h.next → j r = none → h'.mem.get r = h.mem.get r
  old : ∀ r b', r < h.next → h'.mem.get r = some b' → ∃ b, h.mem.get r = some b ∧ b.own = b'.own
  os : w'.os = w.os
  tape : w'.tape = w.tape
  output : w'.output = w.output

def Fresh (j : Inj) (a b : Nat) : Prop := ∀ r, a ≤ r → r < b → j r = none

theorem Fresh.sub {j : Inj} {a b a' b' : Nat} (h : Fresh j a b) (ha : a ≤ a') (hb : b' ≤ b) : Fresh j a' b' := fun r h1 h2 => h r (by omega) (by omega)

section
variable {P : Program} {base : Nat} {j j' j'' : Inj} {h h' h'' : H} {w w' w'' : World}

theorem Step.ext (s : Step P base j h w j' h' w') (f : Fresh j h.next h'.next) : Ext j j' := by
  intro r q e
  by_cases hr : r < h.next ∨ h'.next ≤ r
  · rw [s.out r hr]; exact e
  · rw [f r (by omega) (by omega)] at e; cases e

theorem Step.refl (r : HRel P base j h w) : Step P base j h w j h w where
  mono := Nat.le_refl _
  out := fun _ _ => rfl
  rel := r
  size := Nat.le_refl _
  frame := fun _ _ _ => rfl
  new := fun r' b q h1 h2 => absurd (r.next r' b h2) (by omega)
  keep := fun _ _ _ => rfl
  old := fun r b' _ hb => ⟨b', hb, rfl⟩
  os := rfl
  tape := rfl
  output := rfl

theorem Step.fresh (s : Step P base j h w j' h' w') {n : Nat} (f : Fresh j h.next n) : Fresh j' h'.next n := by
  intro r h1 h2
  rw [s.out r (.inr h1)]
  exact f r (by have := s.mono; omega) h2

theorem Step.trans (s : Step P base j h w j' h' w') (t : Step P base j' h' w' j'' h'' w'') : Step P base j h w j'' h'' w'' where
  mono := Nat.le_trans s.mono t.mono
  out := fun r hr => by
    have m1 := s.mono; have m2 := t.mono
    rw [t.out r (by omega), s.out r (by omega)]
  rel := t.rel
  size := Nat.le_trans s.size t.size
  frame := fun c hc hn => by
    have sz := s.size
    rw [t.frame c (by omega) ?_, s.frame c hc hn]
    intro r b q hb ho hq e
    by_cases hr : r < h.next
    · rw [s.out r (.inl hr)] at hq
      obtain ⟨b0, h0, ho0⟩ := s.old r b hr hb
      exact hn r b0 q h0 (by rw [ho0]; exact ho) hq e
    · rcases s.new r b q (by omega) hb ho hq with h1 | ⟨r0, b0, q0, h0, ho0, hq0, e0⟩
      · omega
      · exact hn r0 b0 q0 h0 ho0 hq0 (by omega)
  new := fun r b q hr hb ho hq => by
    have m1 := s.mono; have m2 := t.mono; have sz := s.size
    by_cases hr' : r < h'.next
    · rw [t.out r (.inl hr')] at hq
      obtain ⟨b1, h1, ho1⟩ := t.old r b hr' hb
      exact s.new r b1 q hr h1 (by rw [ho1]; exact ho) hq
    · rcases t.new r b q (by omega) hb ho hq with h1 | ⟨r0, b0, q0, h0, ho0, hq0, e0⟩
      · exact .inl (by omega)
      · by_cases hr0 : r0 < h.next
        · rw [s.out r0 (.inl hr0)] at hq0
          obtain ⟨b1, h1, ho1⟩ := s.old r0 b0 hr0 h0
          exact .inr ⟨r0, b1, q0, h1, by rw [ho1]; exact ho0, hq0, e0⟩
        · rcases s.new r0 b0 q0 (by omega) h0 ho0 hq0 with h1 | ⟨r1, b1, q1, h1, ho1, hq1, e1⟩
          · exact .inl (by omega)
          · exact .inr ⟨r1, b1, q1, h1, ho1, hq1, by omega⟩
  keep := fun r hr hn => by
    have m1 := s.mono
    rw [t.keep r (by omega) (by rw [s.out r (.inl hr)]; exact hn), s.keep r hr hn]
  old := fun r b' hr hb => by
    have m1 := s.mono
    obtain ⟨b1, h1, e1⟩ := t.old r b' (by omega) hb
    obtain ⟨b0, h0, e0⟩ := s.old r b1 hr h1
    exact ⟨b0, h0, by rw [e0, e1]⟩
  os := t.os.trans s.os
  tape := t.tape.trans s.tape
  output := t.output.trans s.output

theorem Step.below (s : Step P base j h w j' h' w') (r : HRel P base j h w) : Below base w w' :=
  ⟨s.os, s.tape, s.output, s.size, fun k hk => s.frame k (by have := r.base; omega) fun r' b q hb ho hq e => by have := (r.blk r' b q hb hq).ge ho; omega⟩

/-- A draw turns nothing. -/
theorem HRel.drew (r : HRel P base j h w) (n : Nat) : HRel P base j h { w with drawn := n } :=
  ⟨fun r' b q hb hq => (r.blk r' b q hb hq).congr rfl, r.inj, r.next, r.base⟩

theorem Step.drew (s : Step P base j h w j' h' w') (n : Nat) : Step P base j h w j' h' { w' with drawn := n } :=
  { s with rel := s.rel.drew n }

theorem Step.drew1 (n : Nat) (s : Step P base j h { w with drawn := n } j' h' w') : Step P base j h w j' h' w' :=
  { s with }
end

/-! ## Memory -/

def wset (w : World) (c : Nat) (o : Obj) : World := { w with heap := w.heap.setIfInBounds c o }

theorem wset_get (w : World) (c : Nat) (o : Obj) (k : Nat) : (wset w c o).heap[k]? = if k = c ∧ c < w.heap.size then some o else w.heap[k]? := by
  simp only [wset, Array.getElem?_setIfInBounds]
  by_cases e : c = k
  · subst e
    by_cases h : c < w.heap.size
    · simp [h]
    · simp [h]
  · rw [if_neg e, if_neg (by omega)]

@[simp] theorem wset_size (w : World) (c : Nat) (o : Obj) : (wset w c o).heap.size = w.heap.size := by simp [wset]

theorem addr_add (c o n : Nat) : Addr.add ⟨c, o, none⟩ n = ⟨c, o + n, none⟩ := by
  unfold Addr.add
  split
  · subst_vars; rfl
  · rfl

/-- An array of cells written from 'o' on. -/
def wr : Array Value → Nat → List Value → Array Value
  | cs, _, [] => cs
  | cs, o, v :: vs => wr (cs.setIfInBounds o v) (o + 1) vs

theorem wr_size : ∀ (vs : List Value) (cs : Array Value) (o : Nat), (wr cs o vs).size = cs.size
  | [], _, _ => rfl
  | v :: vs, cs, o => by simp [wr, wr_size vs]

theorem wr_get : ∀ (vs : List Value) (cs : Array Value) (o k : Nat), o + vs.length ≤ cs.size → (wr cs o vs)[k]? = if o ≤ k ∧ k < o + vs.length then vs[k - o]? else cs[k]?
  | [], cs, o, k, _ => by simp only [wr, List.length_nil]; rw [if_neg (by omega)]
  | v :: vs, cs, o, k, h => by
    simp only [List.length_cons] at h
    simp only [wr, wr_get vs (cs.setIfInBounds o v) (o + 1) k (by simp; omega), List.length_cons]
    by_cases h1 : o + 1 ≤ k ∧ k < o + 1 + vs.length
    · rw [if_pos h1, if_pos (by omega), show k - o = (k - (o + 1)) + 1 by omega]; simp
    · rw [if_neg h1]
      by_cases h2 : k = o
      · subst h2
        have h3 : k ≤ k ∧ k < k + (vs.length + 1) := by omega
        have h4 : k < cs.size := by omega
        rw [if_pos h3]; simp [h4]
      · have h3 : ¬ (o ≤ k ∧ k < o + (vs.length + 1)) := by omega
        rw [if_neg h3, Array.getElem?_setIfInBounds, if_neg (by omega)]

theorem setCell_eq {w : World} {c : Nat} {cs : Array Value} {ty : TypeId} {fr : Nat × Nat} (h : w.heap[c]? = some (.cells cs ty fr)) (o : Nat) (v : Value) :
    w.setCell ⟨c, o, none⟩ v = wset w c (.cells (cs.setIfInBounds o v) ty fr) := by
  simp only [World.setCell, wset]
  congr 1
  apply Array.ext_getElem?
  intro k
  have hc := (Array.getElem?_eq_some_iff.1 h).1
  simp only [Array.getElem?_modify, Array.getElem?_setIfInBounds]
  by_cases e : c = k
  · subst e; rw [if_pos rfl, if_pos rfl, if_pos hc, h]; rfl
  · rw [if_neg e, if_neg e]

theorem wset_wset (w : World) (c : Nat) (o o' : Obj) : wset (wset w c o) c o' = wset w c o' := by
  simp only [wset]
  congr 1
  apply Array.ext_getElem?
  intro k
  simp only [Array.getElem?_setIfInBounds, Array.size_setIfInBounds]
  by_cases e : c = k
  · subst e; simp
  · simp [e]

theorem wset_same {w : World} {c : Nat} {o : Obj} (h : w.heap[c]? = some o) : wset w c o = w := by
  have : w.heap.setIfInBounds c o = w.heap := by
    apply Array.ext_getElem?
    intro k
    simp only [Array.getElem?_setIfInBounds]
    by_cases e : c = k
    · subst e; rw [if_pos rfl, if_pos (Array.getElem?_eq_some_iff.1 h).1, h]
    · simp [e]
  simp only [wset, this]

theorem run_storeCells' {P : Program} : ∀ (vs : List Value) (w : World) (c o i : Nat) (cs : Array Value) (ty : TypeId) (fr : Nat × Nat), w.heap[c]? = some (.cells cs ty fr) → (fr.1 = fr.2 ∨ cs.size ≤ fr.1) →
    o + i + vs.length ≤ cs.size → (∀ v ∈ vs, v.oneCell' = true) → (storeCells ⟨c, o, none⟩ vs i).run P w = .ok () (wset w c (.cells (wr cs (o + i) vs) ty fr))
  | [], w, c, o, i, cs, ty, fr, h, _, _, _ => by simp [storeCells, wr, wset_same h]
  | v :: vs, w, c, o, i, cs, ty, fr, h, hf, hl, hv => by
    simp only [List.length_cons] at hl
    have hcell : w.cell? ⟨c, o + i, none⟩ = some cs[o + i] := by simp [World.cell?, h]
    have hfroz : w.frozen? ⟨c, o + i, none⟩ = false := by
      simp only [World.frozen?, h]
      rcases hf with hf | hf
      · by_cases hh : fr.1 ≤ o + i
        · simp [hh]; omega
        · simp [hh]
      · have : ¬ fr.1 ≤ o + i := by omega
        simp [this]
    have hc := (Array.getElem?_eq_some_iff.1 h).1
    simp only [storeCells, Sem.run_bind, addr_add, run_store P w _ v .plain (hv v (by simp)), hcell, hfroz, setCell_eq h]
    simp only [Bool.false_eq_true, if_false, Result.andThen_ok]
    rw [run_storeCells' vs _ c o (i + 1) (cs.setIfInBounds (o + i) v) ty fr (by rw [wset_get, if_pos ⟨rfl, hc⟩]) (by simpa using hf) (by simp; omega) (fun u hu => hv u (by simp [hu]))]
    simp only [wset_wset, wr, Nat.add_assoc]

end Go.Am
