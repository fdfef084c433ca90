/- The abstract machine: a region in any order. What is looked at once and for all, and what it says. -/
import Derived.Test.YtfkbofbdonmpfaaAm21
set_option linter.unusedSimpArgs false
set_option linter.unusedVariables false
set_option linter.unusedSectionVars false
set_option linter.unnecessarySimpa false
namespace Go.Am
open Go.Instr

theorem pairs1_spec {p : Nat} {fj : Foot} : ∀ (fs : List Foot) (i0 : Nat), pairs1 p fj fs i0 = true → ∀ i f, fs[i]? = some f → clash f fj = true → p.testBit (i0 + i) = true
  | [], i0, _, i, f, hf, _ => by simp at hf
  | f0 :: fs, i0, h, i, f, hf, hc => by
    simp only [pairs1, Bool.and_eq_true] at h
    cases i with
    | zero =>
      simp only [List.getElem?_cons_zero, Option.some.injEq] at hf; subst hf
      have := h.1
      rw [hc] at this
      simpa using this
    | succ i =>
      have := pairs1_spec fs (i0 + 1) h.2 i f (by simpa using hf) hc
      rwa [show i0 + 1 + i = i0 + (i + 1) by omega] at this

theorem pairsOk_spec : ∀ (l : List Foot) (ps : List Nat) (before : List Foot), pairsOk ps before l = true → ∀ k fk, l[k]? = some fk → ∃ p, ps[k]? = some p ∧ pairs1 p fk (before ++ l.take k) 0 = true
  | [], ps, before, _, k, fk, hk => by simp at hk
  | f :: l, [], before, h, k, fk, hk => by simp [pairsOk] at h
  | f :: l, p :: ps, before, h, k, fk, hk => by
    simp only [pairsOk, Bool.and_eq_true] at h
    cases k with
    | zero =>
      simp only [List.getElem?_cons_zero, Option.some.injEq] at hk; subst hk
      exact ⟨p, rfl, by simpa using h.1⟩
    | succ k =>
      obtain ⟨p', h1, h2⟩ := pairsOk_spec l ps _ h.2 k fk (by simpa using hk)
      exact ⟨p', by simpa using h1, by simpa using h2⟩

theorem pairsOk_ord {fs : List Foot} {ps : List Nat} (h : pairsOk ps [] fs = true) {i k : Nat} {fi fk : Foot} (hik : i < k) (hi : fs[i]? = some fi) (hk : fs[k]? = some fk) (hc : clash fi fk = true) : (ps.getD k 0).testBit i = true := by
  obtain ⟨p, h1, h2⟩ := pairsOk_spec fs ps [] h k fk hk
  have := pairs1_spec _ 0 h2 i fi (by simp [List.getElem?_take, hik, hi]) hc
  rw [List.getD_eq_getElem?_getD, h1]
  simpa using this

def anyEdge (e : Edge) : Bool := Region.binds .any e

theorem fold_bits (acc : List Nat) (i : Nat) : ∀ (es : List Edge) (s0 : Nat), (es.foldl (fun s e => match e.ground with
      | .textOnly _ => s
      | .gcOnly _ => s
      | _ => s ||| 2 ^ e.on ||| acc.getD e.on 0) s0).testBit i = true → s0.testBit i = true ∨ ∃ e ∈ es, anyEdge e = true ∧ (e.on = i ∨ (acc.getD e.on 0).testBit i = true)
  | [], s0, h => .inl h
  | e :: es, s0, h => by
    simp only [List.foldl_cons] at h
    rcases fold_bits acc i es _ h with h | ⟨e', h1, h2, h3⟩
    · cases hg : e.ground <;> rw [hg] at h <;> simp only at h
      case textOnly => exact .inl h
      case gcOnly => exact .inl h
      all_goals
        simp only [Nat.testBit_or, Bool.or_eq_true] at h
        have ha : anyEdge e = true := by simp [anyEdge, Region.binds, hg]
        rcases h with (h | h) | h
        · exact .inl h
        · refine .inr ⟨e, by simp, ha, .inl ?_⟩
          rw [Nat.testBit_two_pow] at h
          simpa using h
        · exact .inr ⟨e, by simp, ha, .inr h⟩
    · exact .inr ⟨e', by simp [h1], h2, h3⟩

theorem preds_closed {S : Nat → Prop} : ∀ (l : List Oper) (acc : List Nat), (∀ k o, l[k]? = some o → S (acc.length + k) → ∀ e ∈ o.after.toList, anyEdge e = true → S e.on) → (∀ k, S k → ∀ i, (acc.getD k 0).testBit i = true → S i) →
    ∀ k, S k → ∀ i, ((preds l acc).getD k 0).testBit i = true → S i
  | [], acc, _, h2, k, hk, i, hi => h2 k hk i (by simpa [preds] using hi)
  | o :: l, acc, h1, h2, k, hk, i, hi => by
    simp only [preds] at hi
    refine preds_closed l _ (fun k o' ho' hs e he ha => ?_) (fun k hk i hi => ?_) k hk i hi
    · simp only [List.length_append, List.length_cons, List.length_nil] at hs
      exact h1 (k + 1) o' (by simpa using ho') (by rwa [show acc.length + (k + 1) = acc.length + (0 + 1) + k by omega]) e he ha
    · rw [List.getD_eq_getElem?_getD] at hi
      by_cases hlt : k < acc.length
      · rw [List.getElem?_append_left hlt, ← List.getD_eq_getElem?_getD] at hi
        exact h2 k hk i hi
      · by_cases he : k = acc.length
        · subst he
          rw [List.getElem?_append_right (by omega)] at hi
          simp only [Nat.sub_self, List.getElem?_cons_zero, Option.getD_some] at hi
          rcases fold_bits acc i _ _ hi with h | ⟨e, e1, e2, e3⟩
          · simp at h
          · have hs := h1 0 o rfl (by simpa using hk) e e1 e2
            rcases e3 with rfl | e3
            · exact hs
            · exact h2 _ hs i e3
        · rw [List.getElem?_eq_none (by simp; omega)] at hi
          simp at hi

theorem needs_bit (md : Region.Mode) {o : Oper} {e : Edge} (he : e ∈ o.after.toList) (hb : Region.binds md e = true) : (needs md o).testBit e.on = true := by
  unfold needs
  generalize hf : (fun (s : Nat) (e : Edge) => match e.ground, md with
  | .textOnly _, .text => s ||| 2 ^ e.on
  | .textOnly _, _ => s
  | .gcOnly _, .gc => s ||| 2 ^ e.on
  | .gcOnly _, _ => s
  | _, _ => s ||| 2 ^ e.on) = f
  have mono : ∀ (s : Nat) (e' : Edge) i, s.testBit i = true → (f s e').testBit i = true := by
    intro s e' i hi
    subst hf
    simp only
    split <;> first | exact hi | (simp only [Nat.testBit_or, hi, Bool.true_or])
  have hit : ∀ (s : Nat), (f s e).testBit e.on = true := by
    intro s
    subst hf
    simp only
    unfold Region.binds at hb
    cases hg : e.ground <;> simp only [hg] at hb ⊢ <;> cases md <;> first | (exact absurd hb (by decide)) | simp [Nat.testBit_or, Nat.testBit_two_pow]
  have keep : ∀ (es : List Edge) (s : Nat) i, s.testBit i = true → (es.foldl f s).testBit i = true := by
    intro es
    induction es with
    | nil => intro s i h; exact h
    | cons e' es ih => intro s i h; exact ih _ _ (mono s e' i h)
  have go : ∀ (es : List Edge) (s : Nat), e ∈ es → (es.foldl f s).testBit e.on = true := by
    intro es
    induction es with
    | nil => intro s h; cases h
    | cons e' es ih =>
      intro s h
      rcases List.mem_cons.1 h with h | h
      · rw [← h]; exact keep es _ _ (hit s)
      · exact ih _ h
  exact go _ _ he

theorem pass_spec {α : Type} {S : Nat → Prop} : ∀ (ms : List Nat) (i d : Nat) (k : Nat → α), (∀ b, d.testBit b = true → S b) → (∀ j m, ms[j]? = some m → (∀ b, m.testBit b = true → S b) → S (i + j)) →
    ∃ d', pass α ms i d k = k d' ∧ ∀ b, d'.testBit b = true → S b
  | [], i, d, k, hd, _ => ⟨d, rfl, hd⟩
  | m :: ms, i, d, k, hd, hm => by
    simp only [pass]
    have hm' : ∀ j m, ms[j]? = some m → (∀ b, m.testBit b = true → S b) → S (i + 1 + j) := fun j m h h2 => by
      have := hm (j + 1) m (by simpa using h) h2
      rwa [show i + 1 + j = i + (j + 1) by omega]
    cases hb : Nat.beq (Nat.land m d) m with
    | false => exact pass_spec ms (i + 1) d k hd hm'
    | true =>
      simp only [cond_true, fN_eq]
      have he : Nat.land m d = m := Nat.eq_of_beq_eq_true hb
      have hs : S i := by
        have := hm 0 m rfl (fun b hb => hd b ?_)
        · simpa using this
        · have h2 : (Nat.land m d).testBit b = true := by rw [he]; exact hb
          have h3 : (m &&& d).testBit b = true := h2
          rw [Nat.testBit_and, Bool.and_eq_true] at h3
          exact h3.2
      refine pass_spec ms (i + 1) _ k (fun b hb => ?_) hm'
      rw [Nat.testBit_or, Bool.or_eq_true] at hb
      rcases hb with hb | hb
      · exact hd b hb
      · rw [Nat.testBit_two_pow] at hb
        have : i = b := by simpa using hb
        rwa [← this]

theorem settle_spec {S : Nat → Prop} {ms : List Nat} (hm : ∀ j m, ms[j]? = some m → (∀ b, m.testBit b = true → S b) → S j) : ∀ (k d : Nat), settle ms k d = true → (∀ b, d.testBit b = true → S b) → ∀ i, i < ms.length → S i
  | 0, d, h, _ => by cases h
  | k + 1, d, h, hd => by
    simp only [settle] at h
    cases hb : Nat.beq d (2 ^ ms.length - 1) with
    | true =>
      intro i hi
      have he : d = 2 ^ ms.length - 1 := Nat.eq_of_beq_eq_true hb
      refine hd i ?_
      rw [he, Nat.testBit_two_pow_sub_one]
      simpa using hi
    | false =>
      rw [hb] at h
      simp only [cond_false] at h
      obtain ⟨d', e1, e2⟩ := pass_spec (α := Bool) ms 0 d (fun d => settle ms k d) hd (by simpa using hm)
      rw [e1] at h
      exact settle_spec hm k d' h e2

/-- Whatever was done: something may go next, until all are done. -/
def Settles (md : Region.Mode) (ops : Array Oper) : Prop := ∀ S : Nat → Prop, (∀ i o, ops[i]? = some o → (∀ e ∈ o.after.toList, Region.binds md e = true → S e.on) → S i) → ∀ i, i < ops.size → S i

theorem settles_spec {md : Region.Mode} {ops : Array Oper} (h : settles ops.toList md = true) : Settles md ops := by
  intro S hS i hi
  unfold settles at h
  refine settle_spec (S := S) (fun j m hj hb => ?_) _ _ h (by simp) i (by simpa using hi)
  rw [List.getElem?_map] at hj
  cases ho : ops.toList[j]? with
  | none => rw [ho] at hj; cases hj
  | some o =>
    rw [ho] at hj
    simp only [Option.map_some, Option.some.injEq] at hj
    subst hj
    exact hS j o (by rw [← Array.getElem?_toList]; exact ho) fun e he hbe => hb _ (needs_bit md he hbe)

theorem binds_any {md : Region.Mode} {e : Edge} (h : Region.binds .any e = true) : Region.binds md e = true := by
  unfold Region.binds at *
  cases hg : e.ground <;> rw [hg] at h <;> simp only at h ⊢
  · exact absurd h (by decide)
  · exact absurd h (by decide)

theorem Settles.any {md : Region.Mode} {ops : Array Oper} (h : Settles md ops) : Settles .any ops :=
  fun S hS i hi => h S (fun i o ho hb => hS i o ho fun e he ha => hb e he (binds_any ha)) i hi

theorem ready_mem {md : Region.Mode} {ops : Array Oper} {listed : Array Bool} {i : Nat} (h : i ∈ Region.ready md ops listed) :
    ∃ o, ops[i]? = some o ∧ listed.getD i true = false ∧ ∀ e ∈ o.after.toList, Region.binds md e = true → listed.getD e.on false = true := by
  unfold Region.ready at h
  rw [List.mem_filter, Bool.and_eq_true] at h
  obtain ⟨h1, h2, h3⟩ := h
  have hlt := List.mem_range.1 h1
  have ho : ops[i]? = some ops[i] := Array.getElem?_eq_getElem hlt
  refine ⟨_, ho, by simpa using h2, fun e he hb => ?_⟩
  rw [ho] at h3
  simp only [Option.map_some, Option.getD_some] at h3
  rw [Array.all_eq_true'] at h3
  have := h3 e (by simpa using he)
  rw [hb] at this
  simpa using this

theorem ready_nil {md : Region.Mode} {ops : Array Oper} {listed : Array Bool} (hs : Settles md ops) (hl : listed.size = ops.size) (h : Region.ready md ops listed = []) : ∀ i, i < ops.size → listed.getD i false = true := by
  refine hs (fun i => listed.getD i false = true) fun i o ho he => ?_
  have hlt := (Array.getElem?_eq_some_iff.1 ho).1
  cases hb : listed.getD i false with
  | true => rfl
  | false =>
    exfalso
    have : i ∈ Region.ready md ops listed := by
      unfold Region.ready
      rw [List.mem_filter, Bool.and_eq_true]
      refine ⟨List.mem_range.2 hlt, ?_, ?_⟩
      · have : listed.getD i true = false := by
          rw [Array.getD_eq_getD_getElem?] at hb ⊢
          rw [Array.getElem?_eq_getElem (by omega)] at hb ⊢
          simpa using hb
        rw [this]; rfl
      · rw [ho]
        simp only [Option.map_some, Option.getD_some]
        rw [Array.all_eq_true']
        intro e hem
        cases hbe : Region.binds md e with
        | false => rfl
        | true =>
          have := he e (by simpa using hem) hbe
          rw [this]; rfl
    rw [h] at this
    cases this

theorem departing_spec {ops : Array Oper} (h : departing ops.toList = false) : Region.departs ops = false := by
  unfold Region.departs
  unfold departing at h
  rw [Bool.eq_false_iff] at h ⊢
  intro hd
  refine h ?_
  rw [Array.any_eq_true'] at hd
  obtain ⟨o, h1, h2⟩ := hd
  rw [Array.any_eq_true'] at h2
  obtain ⟨e, h3, h4⟩ := h2
  rw [List.any_eq_true]
  refine ⟨o, by simpa using h1, ?_⟩
  rw [List.any_eq_true]
  refine ⟨e, by simpa using h3, ?_⟩
  unfold Region.binds at h4
  cases hg : e.ground <;> simp only [hg] at h4 ⊢ <;> simp at h4

/-- Every order the machine may draw. -/
theorem schedule_wp {P : Program} {ops : Array Oper} {Q : Exit → Act → World → Prop} {a : Act} {w : World} {mixed : Bool} (hd : if departing ops.toList = true then settles ops.toList .text = true ∧ settles ops.toList .gc = true else settles ops.toList .any = true)
    (h : ∀ md, Settles md ops → wpAny P md ops Q ops.size (Array.replicate ops.size false) a w) (t : Nat) : wpOps P ops Q (Region.schedule mixed ops t) a w := by
  unfold Region.schedule
  by_cases hdep : departing ops.toList = true
  · rw [if_pos hdep] at hd
    have ht := settles_spec hd.1
    have hg := settles_spec hd.2
    split
    · exact wpAny_sound ops.size t _ a _ (h .any ht.any)
    · split
      · exact wpAny_sound ops.size _ _ a _ (h .text ht)
      · exact wpAny_sound ops.size _ _ a _ (h .gc hg)
  · rw [if_neg hdep] at hd
    have := departing_spec (by simpa using hdep)
    rw [this]
    simp only [Bool.not_false, Bool.or_true, if_true]
    exact wpAny_sound ops.size t _ a _ (h .any (settles_spec hd))

end Go.Am
