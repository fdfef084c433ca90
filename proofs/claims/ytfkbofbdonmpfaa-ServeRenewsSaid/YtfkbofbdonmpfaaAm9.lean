/- The abstract machine: what each operation that looks at no memory comes to in the model. -/
import Derived.Test.YtfkbofbdonmpfaaAm8
set_option linter.unusedSimpArgs false
set_option linter.unusedVariables false
set_option linter.unusedSectionVars false
set_option linter.unnecessarySimpa false
namespace Go.Am
open Go.Instr

def ERel (j : Inj) (e : Env) (tmps : Array Value) : Prop := ∀ t, ren j (gv e t) = some (tmps.getD t undef)

theorem ev_rel {j : Inj} {e : Env} {a : Act} (h : ERel j e a.tmps) (x : Operand) (hx : opdOk x = true) : ren j (ev e x) = some (a.eval x) := by
  cases x with
  | tmp t => exact h t
  | const v => exact ofVal_ok j 8 v hx
  | global g => simp [opdOk] at hx
  | func f => simp [ev, ren, rens, Act.eval]

theorem evs_rel {j : Inj} {e : Env} {a : Act} : ∀ l : List Operand, (∀ x ∈ l, ren j (ev e x) = some (a.eval x)) → rens j (evs e l) = some (l.map a.eval)
  | [], _ => rfl
  | x :: l, hl => rens_mk (hl x (by simp)) (evs_rel l fun y hy => hl y (by simp [hy]))

theorem opt_rel {j : Inj} {e : Env} {a : Act} (x : Option Operand) (hx : ∀ y, x = some y → ren j (ev e y) = some (a.eval y)) : OptRel j (x.map (ev e)) (x.map a.eval) := by
  cases x with
  | none => trivial
  | some y => exact hx y rfl

/-- What an operation looks at, on both sides. -/
def Seen (j : Inj) (e : Env) (a : Act) (o : Oper) : Prop := ∀ x ∈ o.op.operands.toList, ren j (ev e x) = some (a.eval x)

section
variable {P : Program} {j : Inj} (w : World)

/-- Parts laid over cells. -/
def PartsRel (j : Inj) : List (Nat × V) → List (Nat × Value) → Prop
  | [], [] => True
  | (n, v) :: l, (n', v') :: l' => n = n' ∧ ren j v = some v' ∧ PartsRel j l l'
  | _, _ => False

theorem parts_rel {e : Env} {a : Act} : ∀ l : List (Nat × Operand), (∀ x ∈ l, ren j (ev e x.2) = some (a.eval x.2)) → PartsRel j (evParts e l) (l.map fun (i, x) => (i, a.eval x))
  | [], _ => trivial
  | (n, x) :: l, hl => ⟨rfl, hl (n, x) (by simp), parts_rel l fun y hy => hl y (by simp [hy])⟩

theorem over_arr {cs cs' : List V} {l : List Value} {o : Nat} {vs : List V} {vs' : List Value} (h : overAt cs o vs = some cs') (hc : rens j cs = some l) (hv : rens j vs = some vs') :
    rens j cs' = some (vs'.zipIdx.foldl (fun (acc : Array Value) (c, i) => acc.setIfInBounds (o + i) c) ⟨l⟩).toList ∧ o + vs'.length ≤ l.length := by
  have hl := overAt_len h
  have hcl := rens_length hc
  have hvl := rens_length hv
  have key : ∀ (vs' : List Value) (acc : Array Value) (k : Nat), (vs'.zipIdx k).foldl (fun (acc : Array Value) (c, i) => acc.setIfInBounds (o + i) c) acc = wr acc (o + k) vs' := by
    intro vs'
    induction vs' with
    | nil => intro acc k; rfl
    | cons v vs ih => intro acc k; simp only [List.zipIdx_cons, List.foldl_cons, ih, wr, Nat.add_assoc]
  rw [key vs' ⟨l⟩ 0]
  refine ⟨rens_of_get (by simp [wr_size]; omega) fun i v hi => ?_, by omega⟩
  rw [overAt_get h] at hi
  have hw : (wr ⟨l⟩ (o + 0) vs').toList[i]? = if o ≤ i ∧ i < o + vs.length then vs'[i - o]? else l[i]? := by
    have := wr_get vs' ⟨l⟩ o i (by simp; omega)
    rw [Nat.add_zero, Array.getElem?_toList, this, hvl]
    split
    · rfl
    · simp
  rw [hw]
  by_cases e : o ≤ i ∧ i < o + vs.length
  · rw [if_pos e] at hi ⊢; exact rens_get hv hi
  · rw [if_neg e] at hi ⊢; exact rens_get hc hi

theorem fill_run (place : Nat → Option (Nat × Nat)) : ∀ (l : List (Nat × V)) (ps : List (Nat × V)) (ps' : List (Nat × Value)) (cells cs : List V) (cells' : List Value),
    PartsRel j ps ps' → (∀ k : Nat, ∀ n v, ps[k]? = some (n, v) → ∃ o, l[k]? = some (o, v) ∧ place n = some (o, (cellsOfV v).length)) → l.length = ps.length → fillA cells l = some cs → rens j cells = some cells' →
    ∃ cs', rens j cs = some cs' ∧ Instr.fill place ⟨cells'⟩ ps' = some ⟨cs'⟩
  | [], [], [], cells, cs, cells', _, _, _, h, hc => by
    simp only [fillA, Option.some.injEq] at h; subst h
    exact ⟨cells', hc, rfl⟩
  | (o, v) :: l, (n, v0) :: ps, (n', v') :: ps', cells, cs, cells', hp, hl, hlen, h, hc => by
    obtain ⟨rfl, hv, hp⟩ := hp
    obtain ⟨o', h1, h2⟩ := hl 0 n v0 (by simp)
    simp at h1
    obtain ⟨rfl, rfl⟩ := h1
    simp only [fillA] at h
    cases k : overAt cells o (cellsOfV v) with
    | none => simp [k] at h
    | some c1 =>
      simp only [k] at h
      have hcv := cells_ren hv
      obtain ⟨k1, k2⟩ := over_arr k hc hcv
      obtain ⟨cs', h3, h4⟩ := fill_run place l ps ps' c1 cs _ hp (fun k n v hk => by obtain ⟨o, a, b⟩ := hl (k + 1) n v (by simpa using hk); exact ⟨o, by simpa using a, b⟩) (by simpa using hlen) h k1
      refine ⟨cs', h3, ?_⟩
      have hsz : v'.cells.size = (cellsOfV v).length := by have := rens_length hcv; simpa using this
      simp only [Instr.fill, h2]
      rw [if_neg (by simp only [hsz]; simp at k2; simp; omega)]
      have e : v'.cells.zipIdx.foldl (fun cs (c, i) => cs.setIfInBounds (o + i) c) (⟨cells'⟩ : Array Value) = v'.cells.toList.zipIdx.foldl (fun (acc : Array Value) (c, i) => acc.setIfInBounds (o + i) c) ⟨cells'⟩ := by
        rw [← Array.foldl_toList, Array.toList_zipIdx]
      rw [e]
      exact h4
  | [], [], _ :: _, _, _, _, hp, _, _, _, _ => hp.elim
  | [], _ :: _, _, _, _, _, _, _, hl, _, _ => by simp at hl
  | _ :: _, [], _, _, _, _, _, _, hl, _, _ => by simp at hl
  | _ :: _, _ :: _, [], _, _, _, hp, _, _, _, _ => by cases ‹Nat × V›; exact hp.elim


theorem placesSt_spec {fs : List (Nat × Nat × Nat)} : ∀ {ps l : List (Nat × V)}, placesSt fs ps = some l → l.length = ps.length ∧ ∀ (k n : Nat) (v : V), ps[k]? = some (n, v) → ∃ o tt, fs[n]? = some (o, tt, (cellsOfV v).length) ∧ l[k]? = some (o, v)
  | [], l, h => by simp [placesSt] at h; subst h; simp
  | (n, v) :: ps, l, h => by
    simp only [placesSt] at h
    cases hf : fs[n]? with
    | none => simp [hf] at h
    | some f =>
      obtain ⟨o, tt, sz⟩ := f
      simp only [hf] at h
      cases hb : Nat.beq (cellsOfV v).length sz with
      | false => rw [hb] at h; cases h
      | true =>
        obtain rfl := Nat.eq_of_beq_eq_true hb
        rw [hb] at h; simp only [cond_true] at h
        cases hr : placesSt fs ps with
        | none => simp [hr] at h
        | some r =>
          simp only [hr, Option.some.injEq] at h; subst h
          obtain ⟨h1, h2⟩ := placesSt_spec hr
          refine ⟨by simp [h1], fun k m u hk => ?_⟩
          cases k with
          | zero => simp at hk; obtain ⟨rfl, rfl⟩ := hk; exact ⟨o, tt, hf, by simp⟩
          | succ k => obtain ⟨o', t', a, b⟩ := h2 k m u (by simpa using hk); exact ⟨o', t', a, by simpa using b⟩

theorem placesArr_spec {sz : Nat} : ∀ {ps l : List (Nat × V)}, placesArr sz ps = some l → l.length = ps.length ∧ ∀ (k n : Nat) (v : V), ps[k]? = some (n, v) → (cellsOfV v).length = sz ∧ l[k]? = some (n * sz, v)
  | [], l, h => by simp [placesArr] at h; subst h; simp
  | (n, v) :: ps, l, h => by
    simp only [placesArr] at h
    cases hb : Nat.beq (cellsOfV v).length sz with
    | false => rw [hb] at h; cases h
    | true =>
      have hb' := Nat.eq_of_beq_eq_true hb
      rw [hb] at h; simp only [cond_true] at h
      cases hr : placesArr sz ps with
      | none => simp [hr] at h
      | some r =>
        simp only [hr, Option.some.injEq] at h; subst h
        obtain ⟨h1, h2⟩ := placesArr_spec hr
        refine ⟨by simp [h1], fun k m u hk => ?_⟩
        cases k with
        | zero => simp at hk; obtain ⟨rfl, rfl⟩ := hk; exact ⟨hb', by simp⟩
        | succ k => obtain ⟨a, b⟩ := h2 k m u (by simpa using hk); exact ⟨a, by simpa using b⟩

theorem TIok.zero_ren {t : TypeId} {i : TI} (k : TIok P t i) (j : Inj) : rens j i.zero = some k.z.cells.toList := by
  rw [k.zero_eq]; exact cells_ren (ofVal_ok j 8 k.z k.okz)

theorem TIok.zero_len {t : TypeId} {i : TI} (k : TIok P t i) : i.zero.length = i.sz := by rw [k.zero_eq, k.szz, k.sz_eq]

theorem cellsOf_sz {t : TypeId} {d : TypeDesc} (h : P.underlying t = some d) (w : World) : (sizeOf t).run P w = .ok (P.cellsOf t) w := sizeOf_run w h

theorem mapM_run {α β : Type} (f : α → Sem β) (g : α → β) (w : World) : ∀ l : List α, (∀ x ∈ l, (f x).run P w = .ok (g x) w) → (l.mapM f).run P w = .ok (l.map g) w
  | [], _ => by simp
  | x :: l, h => by simp [List.mapM_cons, h x (by simp), mapM_run f g w l fun y hy => h y (by simp [hy])]

theorem sizeOf_any (t : TypeId) (w : World) (h : (P.info? t).isSome) : (sizeOf t).run P w = .ok (P.cellsOf t) w := by
  cases e : P.info? t with
  | none => simp [e] at h
  | some info => simp [sizeOf, typeInfo, e, Program.cellsOf]

theorem build_run {t : TypeId} {ps : List (Nat × V)} {ps' : List (Nat × Value)} {r : V} {i : TI} (k : TIok P t i) (hp : PartsRel j ps ps')
    (h : (match i.k with
      | .st fs => match placesSt fs ps with
        | some l => match fillA i.zero l with
          | some cs => some (V.a cs)
          | none => none
        | none => none
      | .arr _ el => ti (mkX P) el fun j => match placesArr j.sz ps with
        | some l => match fillA i.zero l with
          | some cs => some (.a cs)
          | none => none
        | none => none
      | _ => none) = some r) :
    ∃ r', ren j r = some r' ∧ (Instr.build t ⟨ps'⟩).run P w = .ok r' w := by
  have hk := k.k_eq
  have hd := k.hd
  cases hki : i.k <;> simp only [hki] at h <;> try (cases h; done)
  case st fs =>
    rw [hki] at hk
    obtain ⟨fa, hfa, rfl⟩ := kOf_st hk.symm
    cases hpl : placesSt (fa.toList.map fun f => (f.offset, f.type, P.cellsOf f.type)) ps with
    | none => simp [hpl] at h
    | some l =>
      simp only [hpl] at h
      cases hfi : fillA i.zero l with
      | none => simp [hfi] at h
      | some cs =>
        simp only [hfi, Option.some.injEq] at h; subst h
        obtain ⟨p1, p2⟩ := placesSt_spec hpl
        have hm : (fa.mapM fun f => do pure (f.offset, ← sizeOf f.type) : Sem _).run P w = .ok (fa.map fun f => (f.offset, P.cellsOf f.type)) w := by
          have hf := k.fok
          rw [hfa] at hf
          simp only [fieldsOk, List.all_eq_true] at hf
          rw [Array.mapM_eq_mapM_toList, Sem.run_map, mapM_run (P := P) _ (fun f : Field => (f.offset, P.cellsOf f.type)) w fa.toList (fun f hx => by simp [sizeOf_any f.type w (hf f hx)])]
          simp only [Result.andThen_ok]
          congr 1
          apply Array.ext'
          simp
        obtain ⟨cs', c1, c2⟩ := fill_run (fun x => (fa.map fun f => (f.offset, P.cellsOf f.type))[x]?) l ps ps' i.zero cs k.z.cells.toList hp (fun kk n v hk => by
          obtain ⟨o, tt, a, b⟩ := p2 kk n v hk
          refine ⟨o, b, ?_⟩
          simp only [List.getElem?_map, Array.getElem?_toList, Option.map_eq_some_iff] at a
          obtain ⟨f, hf, he⟩ := a
          simp only [Array.getElem?_map, hf, Option.map_some]
          simp only [Prod.mk.injEq] at he
          obtain ⟨rfl, rfl, e⟩ := he
          rw [e]) p1 hfi (k.zero_ren j)
        refine ⟨_, by simp only [ren, c1]; rfl, ?_⟩
        simp only [Instr.build, Sem.run_bind, k.zeroValue, Result.andThen_ok, run_underlying hd, hfa, hm]
        simp only [c2]
        simp
  case arr n el =>
    rw [hki] at hk
    have hda := kOf_arr hk.symm
    have h0 := ti_ok h
    clear h
    obtain ⟨ie, ⟨ke⟩, h⟩ := h0
    cases hpl : placesArr ie.sz ps with
    | none => simp [hpl] at h
    | some l =>
      simp only [hpl] at h
      cases hfi : fillA i.zero l with
      | none => simp [hfi] at h
      | some cs =>
        simp only [hfi, Option.some.injEq] at h; subst h
        obtain ⟨p1, p2⟩ := placesArr_spec hpl
        obtain ⟨cs', c1, c2⟩ := fill_run (fun x => some (x * ie.sz, ie.sz)) l ps ps' i.zero cs k.z.cells.toList hp (fun kk n v hk => by
          obtain ⟨a, b⟩ := p2 kk n v hk
          exact ⟨_, b, by rw [a]⟩) p1 hfi (k.zero_ren j)
        refine ⟨_, by simp only [ren, c1]; rfl, ?_⟩
        simp only [Instr.build, Sem.run_bind, k.zeroValue, Result.andThen_ok, run_underlying hd, hda, ke.sizeOf]
        simp only [c2]
        simp

end
end Go.Am
