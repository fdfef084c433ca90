/- The abstract machine: reading memory. -/
import Derived.Test.YtfkbofbdonmpfaaAm10
import Derived.Laws.BytesString
set_option linter.unusedSimpArgs false
set_option linter.unusedVariables false
set_option linter.unusedSectionVars false
set_option linter.unnecessarySimpa false
namespace Go.Am
open Go.Instr

/-- What a map's blocks, looked up, are in the model's memory. -/
def GRel (P : Program) (base : Nat) (j : Inj) (g : Nat → Option B) (w : World) : Prop := ∀ r b q, g r = some b → j r = some q → BRel P j base q b w

/-- Nothing has turned but which bytes may be written, and those only beyond a row's end. -/
structure Soft (base : Nat) (w w' : World) : Prop where
  os : w'.os = w.os
  tape : w'.tape = w.tape
  output : w'.output = w.output
  size : w'.heap.size = w.heap.size
  low : ∀ c : Nat, c < base → w'.heap[c]? = w.heap[c]?
  blk : ∀ c : Nat, w'.heap[c]? = w.heap[c]? ∨ ∃ (cs : Array Value) (ty : TypeId) (fr fr' : Nat × Nat), w.heap[c]? = some (Obj.cells cs ty fr) ∧ w'.heap[c]? = some (Obj.cells cs ty fr') ∧ ((fr.1 = fr.2 ∨ cs.size ≤ fr.1) → (fr'.1 = fr'.2 ∨ cs.size ≤ fr'.1))

theorem Soft.refl (base : Nat) (w : World) : Soft base w w := ⟨rfl, rfl, rfl, rfl, fun _ _ => rfl, fun _ => .inl rfl⟩

theorem Soft.brel {P : Program} {j : Inj} {base : Nat} {q : J} {b : B} {w w' : World} (s : Soft base w w') (h : BRel P j base q b w) : BRel P j base q b w' := by
  rcases s.blk q.c with e | ⟨cs, ty, fr, fr', h1, h2, h3⟩
  · exact h.congr e
  · cases b with
    | c l ty0 own =>
      refine ⟨fun i u hu => ?_, ?_⟩
      · obtain ⟨u', hc, hr⟩ := h.1 i u hu
        refine ⟨u', ?_, hr⟩
        simp only [World.cell?, h1] at hc
        simp only [World.cell?, h2]; exact hc
      · have := h.2
        split at this
        · rename_i ho
          rw [if_pos ho]
          obtain ⟨a1, cs', fr0, a2, a3, a4⟩ := this
          rw [h1] at a2; cases a2
          exact ⟨a1, cs, fr', h2, h3 a3, a4⟩
        · rename_i ho
          rw [if_neg ho]; exact this
    | mp es clock => obtain ⟨_, _, es', hm, _⟩ := h; rw [h1] at hm; cases hm
    | it s pos => have := h.2.2; rw [h1] at this; cases this

section
variable {P : Program} {j : Inj} {base : Nat} {w : World} {g : Nat → Option B}

theorem loadCells_run {q : J} {l vs : List V} {o n : Nat} (hc : CellsRel j q l w) (h : sub l o n = some vs) : ∃ vs', rens j vs = some vs' ∧ (loadCells ⟨q.c, q.d + o, none⟩ n).run P w = .ok ⟨vs'⟩ w ∧ vs'.length = n := by
  obtain ⟨h1, h2, h3⟩ := sub_eq h
  have key : ∀ i, i < n → ∃ u u', vs[i]? = some u ∧ w.cell? ⟨q.c, q.d + (o + i), none⟩ = some u' ∧ ren j u = some u' := by
    intro i hi
    have hlt : i < vs.length := by omega
    have hg : vs[i]? = some vs[i] := List.getElem?_eq_getElem hlt
    have := sub_get h hi
    rw [hg] at this
    obtain ⟨u', a, b⟩ := hc (o + i) vs[i] this.symm
    exact ⟨vs[i], u', hg, a, b⟩
  let f : Nat → Value := fun i => (w.cell? ⟨q.c, q.d + (o + i), none⟩).getD undef
  have hrun := run_loadCells (P := P) w ⟨q.c, q.d + o, none⟩ n f (fun i hi => by
    obtain ⟨u, u', a, b, c⟩ := key i hi
    rw [addr_add, Nat.add_assoc]
    simp only [f, b, Option.getD_some])
  refine ⟨(List.range n).map f, rens_of_get (by simp [h3]) fun i u hu => ?_, hrun, by simp⟩
  have hi : i < n := by have := (List.getElem?_eq_some_iff.1 hu).1; omega
  obtain ⟨u0, u', a, b, c⟩ := key i hi
  rw [a] at hu; cases hu
  refine ⟨u', ?_, c⟩
  rw [List.getElem?_map, List.getElem?_range hi]
  simp only [Option.map_some, f, b, Option.getD_some]

theorem BRel.cells {q : J} {l : List V} {ty : TypeId} {own : Bool} (h : BRel P j base q (.c l ty own) w) : CellsRel j q l w := h.1

theorem load_run {t : TypeId} {i : TI} (k : TIok P t i) {r o : Nat} {v : V} {q : J} (G : GRel P base j g w) (h : loadB i g r o = some v) (hq : j r = some q) : ∃ v', ren j v = some v' ∧ (loadVar t ⟨q.c, q.d + o, none⟩).run P w = .ok v' w := by
  unfold loadB at h
  cases hb : g r with
  | none => simp [hb] at h
  | some b =>
    cases b with
    | mp _ _ => simp [hb] at h
    | it _ _ => simp [hb] at h
    | c l ty own =>
      simp only [hb] at h
      cases hs : sub l o i.sz with
      | none => simp [hs] at h
      | some vs =>
        simp only [hs] at h
        have hc := (G r _ q hb hq).cells
        obtain ⟨vs', h1, h2, h3⟩ := loadCells_run (P := P) hc hs
        obtain ⟨r1, r2⟩ := vOfCells_val k h h1
        refine ⟨_, r1, ?_⟩
        unfold loadVar
        simp only [Sem.run_bind, k.isAgg, Result.andThen_ok, k.agg_eq]
        cases ha : aggD k.d with
        | true => simp [k.sizeOf, h2, valOf]
        | false =>
          obtain ⟨s1, s2, s3⟩ := sub_eq hs
          have hn : vs.length = 1 := r2 ha
          have hn' : i.sz = 1 := by omega
          match vs', h3.trans hn' with
          | [x], _ =>
            have hvs : vs[0]? = l[o + 0]? := sub_get hs (by omega)
            have hv0 : ∃ u, vs[0]? = some u := ⟨vs[0], List.getElem?_eq_getElem (by omega)⟩
            obtain ⟨u, hu⟩ := hv0
            obtain ⟨u', hcell, hren⟩ := hc o u (by rw [← hu, hvs]; rfl)
            obtain ⟨u2, hu2, hren2⟩ := rens_get h1 hu
            simp at hu2; subst hu2
            rw [hren] at hren2; cases hren2
            simp [hcell, valOf]

/-! ### Maps -/

theorem renE_length {j : Inj} : ∀ {l : List (V × V × Nat)} {l' : List MapEntry}, renE j l = some l' → l'.length = l.length
  | [], l', h => by simp [renE] at h; simp [h]
  | (k, v, b) :: l, l', h => by
    simp only [renE] at h
    cases k1 : ren j k with
    | none => rw [k1] at h; cases h
    | some k' => cases k2 : ren j v with
      | none => rw [k1, k2] at h; cases h
      | some v' => cases k3 : renE j l with
        | none => rw [k1, k2, k3] at h; cases h
        | some l1 => rw [k1, k2, k3] at h; cases h; simp [renE_length k3]

theorem renE_cons {j : Inj} {k v : V} {b : Nat} {l : List (V × V × Nat)} {l' : List MapEntry} (h : renE j ((k, v, b) :: l) = some l') : ∃ k' v' l1, l' = ⟨k', v', b⟩ :: l1 ∧ ren j k = some k' ∧ ren j v = some v' ∧ renE j l = some l1 := by
  simp only [renE] at h
  cases k1 : ren j k with
  | none => rw [k1] at h; cases h
  | some k' => cases k2 : ren j v with
    | none => rw [k1, k2] at h; cases h
    | some v' => cases k3 : renE j l with
      | none => rw [k1, k2, k3] at h; cases h
      | some l1 => rw [k1, k2, k3] at h; cases h; exact ⟨_, _, _, rfl, rfl, rfl, rfl⟩

/-- What a search in a map found. -/
def FindRel (j : Inj) : Option (Nat × V) → Option (Nat × Value) → Prop
  | none, none => True
  | some (m, v), some (m', v') => m = m' ∧ ren j v = some v'
  | _, _ => False

theorem asking_run {t : TypeId} {i : TI} (k : TIok P t i) {key : V} {key' : Value} (hk : ren j key = some key') : ∀ (es : List (V × V × Nat)) (es' : List MapEntry) (n : Nat) (r : Option (Nat × V)), renE j es = some es' → findKey i key es n = some r →
    ∃ r' : Option (Nat × Value), (findAsking t key' es' n).run P w = .ok r' w ∧ FindRel j r r'
  | [], es', n, r, he, h => by
    simp only [renE, Option.some.injEq] at he; subst he
    simp only [findKey] at h
    cases hf : eqF i key key with
    | none => simp [hf] at h
    | some b => simp only [hf, Option.some.injEq] at h; subst h; exact ⟨none, by simp [findAsking], trivial⟩
  | (k0, v0, b0) :: es, es', n, r, he, h => by
    obtain ⟨k', v', l1, rfl, h1, h2, h3⟩ := renE_cons he
    simp only [findKey] at h
    cases hf : eqF i key k0 with
    | none => simp [hf] at h
    | some b =>
      obtain ⟨e1, e2, e3, e4⟩ := eqF_run k hf hk h1
      have e1' := e1 10000 w (by omega)
      cases b with
      | true =>
        simp only [hf, Option.some.injEq] at h; subst h
        refine ⟨some (n, v'), ?_, rfl, h2⟩
        simp only [findAsking, Sem.run_bind, Op.equal, Op.maxDepth, e1', Result.andThen_ok, if_true, Sem.run_pure]
      | false =>
        simp only [hf] at h
        obtain ⟨r', a1, a2⟩ := asking_run k hk es l1 (n + 1) r h3 h
        refine ⟨r', ?_, a2⟩
        simp only [findAsking, Sem.run_bind, Op.equal, Op.maxDepth, e1', Result.andThen_ok, Bool.false_eq_true, if_false, a1]


/-- The kinds at which the model holds a map's keys against one another at once. -/
def nowD : TypeDesc → Bool
  | .int _ | .string | .bool => true
  | _ => false

theorem now_run {t : TypeId} {i : TI} (k : TIok P t i) (hn : nowD k.d = true) {key : V} {key' : Value} (hk : ren j key = some key') : ∀ (es : List (V × V × Nat)) (es' : List MapEntry) (n : Nat) (r : Option (Nat × V)), renE j es = some es' → findKey i key es n = some r →
    ∃ r' : Option (Nat × Value), findNow k.d key' es' n = some r' ∧ FindRel j r r'
  | [], es', n, r, he, h => by
    simp only [renE, Option.some.injEq] at he; subst he
    simp only [findKey] at h
    cases hf : eqF i key key with
    | none => simp [hf] at h
    | some b => simp only [hf, Option.some.injEq] at h; subst h; exact ⟨none, rfl, trivial⟩
  | (k0, v0, b0) :: es, es', n, r, he, h => by
    obtain ⟨k', v', l1, rfl, h1, h2, h3⟩ := renE_cons he
    simp only [findKey] at h
    cases hf : eqF i key k0 with
    | none => simp [hf] at h
    | some b =>
      have hs : sameNow k.d key' k' = some b := by
        have hfl := k.flat_eq
        have hag := k.agg_eq
        unfold eqF at hf
        cases hfl' : i.flat with
        | none => rw [hfl'] at hf; cases hf
        | some ks =>
          simp only [hfl'] at hf
          have ha : i.agg = false := by rw [hag]; cases hd : k.d <;> simp_all [nowD, aggD]
          rw [ha] at hf
          have hf : eqK ks [key] [k0] = some b := by simpa using hf
          rw [hfl'] at hfl
          have hu := k.hd
          have one : ∀ (kd : Kd), (bif Nat.beq (P.cellsOf t) 1 then some [kd] else none) = some ks → ks = [kd] := by
            intro kd hk
            cases hb : Nat.beq (P.cellsOf t) 1 with
            | false => rw [hb] at hk; cases hk
            | true => rw [hb] at hk; cases hk; rfl
          cases hd : k.d <;> simp only [hd, nowD, Bool.false_eq_true] at hn <;> rw [hd] at hu <;> simp only [flatT, hu] at hfl
          · obtain rfl := one .b hfl.symm
            cases key <;> cases k0 <;> simp only [eqK, reduceCtorEq] at hf
            rw [inv_b hk, inv_b h1]; simpa [sameNow] using hf
          · obtain rfl := one .i hfl.symm
            cases key <;> cases k0 <;> simp only [eqK, reduceCtorEq] at hf
            rename_i k1 m1 k2 m2 _
            by_cases e : k1 = k2
            · rw [if_pos e] at hf
              rw [inv_i hk, inv_i h1]; simp only [sameNow, e, if_true]
              simp at hf; rw [← hf]; rfl
            · rw [if_neg e] at hf; cases hf
          · obtain rfl := one .s hfl.symm
            cases key <;> cases k0 <;> simp only [eqK, reduceCtorEq] at hf
            rw [inv_s hk, inv_s h1]; simp only [sameNow]
            simp at hf; rw [← hf, beq_toListBytes, ByteArray.toList_eq, ByteArray.toList_eq]
      cases b with
      | true =>
        simp only [hf, Option.some.injEq] at h; subst h
        exact ⟨some (n, v'), by simp only [findNow, hs], rfl, h2⟩
      | false =>
        simp only [hf] at h
        obtain ⟨r', a1, a2⟩ := now_run k hn hk es l1 (n + 1) r h3 h
        exact ⟨r', by simp only [findNow, hs]; exact a1, a2⟩

theorem notNow {d : TypeDesc} (hn : nowD d = false) (key : Value) : ∀ (es : List MapEntry) (n : Nat), findNow d key es n = none ∨ es = []
  | [], n => .inr rfl
  | e :: es, n => by
    left
    cases d <;> simp only [nowD, reduceCtorEq] at hn <;> simp [findNow, sameNow]

theorem findKey_run {t : TypeId} {i : TI} (k : TIok P t i) {key : V} {key' : Value} (hk : ren j key = some key') {es : List (V × V × Nat)} {es' : List MapEntry} {r : Option (Nat × V)} (he : renE j es = some es') (h : findKey i key es 0 = some r) :
    ∃ r' : Option (Nat × Value), (Instr.findKey t key' es').run P w = .ok r' w ∧ FindRel j r r' := by
  cases hn : nowD k.d with
  | true =>
    obtain ⟨r', h1, h2⟩ := now_run k hn hk es es' 0 r he h
    exact ⟨r', by simp only [Instr.findKey, Sem.run_bind, k.underlying, Result.andThen_ok, h1, Sem.run_pure], h2⟩
  | false =>
    obtain ⟨r', h1, h2⟩ := asking_run (w := w) k hk es es' 0 r he h
    rcases notNow hn key' es' 0 with e | e
    · exact ⟨r', by simp only [Instr.findKey, Sem.run_bind, k.underlying, Result.andThen_ok, e, h1], h2⟩
    · subst e
      have : r' = none := by simp [findAsking] at h1; exact h1.symm
      subst this
      exact ⟨none, by simp [Instr.findKey, k.underlying, findNow], h2⟩


theorem forIn_unit_run {α : Type} (w : World) (f : α → PUnit → Sem (ForInStep PUnit)) : ∀ l : List α, (∀ x ∈ l, (f x ⟨⟩).run P w = .ok (.yield ⟨⟩) w) → (forIn l PUnit.unit f : Sem PUnit).run P w = .ok ⟨⟩ w
  | [], _ => by simp
  | x :: l, h => by
    simp only [List.forIn_cons, Sem.run_bind, h x (by simp), Result.andThen_ok]
    exact forIn_unit_run w f l fun y hy => h y (by simp [hy])

theorem checkKey_flat (em : Bool) : ∀ (n : Nat) (t : TypeId) (ks : List Kd), flatT P n t = some ks → ∀ (d : Nat), n ≤ d → ∀ (xs : List Value), P.cellsOf t ≤ xs.length → ∀ w : World,
    (checkKey em d t (valOf (aggOf P t) xs)).run P w = .ok () w
  | 0, t, ks, h, _, _, _, _, _ => by simp [flatT] at h
  | n + 1, t, ks, h, d, hd, xs, hx, w => by
    obtain ⟨d, rfl⟩ : ∃ d', d = d' + 1 := ⟨d - 1, by omega⟩
    cases hu : P.underlying t with
    | none => simp [flatT, hu] at h
    | some dd =>
      have hag : aggOf P t = aggD dd := by simp [aggOf, hu]
      simp only [flatT, hu] at h
      cases dd <;> simp only [reduceCtorEq] at h
      case bool => simp [checkKey, run_underlying hu]
      case int k => simp [checkKey, run_underlying hu]
      case string => simp [checkKey, run_underlying hu]
      case array len el =>
        cases hf : flatT P n el with
        | none => simp [hf] at h
        | some ke =>
          simp only [hf] at h
          obtain ⟨i1, i2, i3⟩ := eq_flat P (fun _ => none) n el ke hf
          cases hb : (Nat.beq ke.length (P.cellsOf el) && Nat.beq (P.cellsOf t) (len * P.cellsOf el) && Nat.ble len 64) with
          | false => rw [hb] at h; cases h
          | true =>
            simp only [Bool.and_eq_true] at hb
            have hb12 : P.cellsOf t = len * P.cellsOf el := Nat.eq_of_beq_eq_true hb.1.2
            obtain ⟨de, hde⟩ : ∃ de, P.underlying el = some de := by
              cases n with
              | zero => simp [flatT] at hf
              | succ n => cases q : P.underlying el with
                | none => simp [flatT, q] at hf
                | some de => exact ⟨de, rfl⟩
            have hae : aggOf P el = aggD de := by simp [aggOf, hde]
            have i2' : aggD de = false → P.cellsOf el = 1 := by rw [← hae]; exact i2
            simp only [hag, aggD, valOf, cond_true, checkKey, Sem.run_bind, run_underlying hu, Result.andThen_ok]
            rw [Std.Legacy.Range.forIn_eq_forIn_range']
            refine (congrArg (fun r => Result.andThen r fun _ w' => Sem.run P (pure ()) w') (forIn_unit_run (P := P) w _ _ fun i hi => ?_)).trans rfl
            have hi' : i < len := by
              simp only [Std.Legacy.Range.size] at hi
              rw [show (len - 0 + 1 - 1) / 1 = len by simp] at hi
              have := List.mem_range'.1 hi
              omega
            have hb1 : i * P.cellsOf el + P.cellsOf el ≤ len * P.cellsOf el := by
              rw [← Nat.succ_mul]; exact Nat.mul_le_mul_right _ (by omega)
            simp only [Sem.run_bind, sizeOf_run w hde, Result.andThen_ok]
            rw [part_run hde w xs (i * P.cellsOf el) (by omega) i2', Result.andThen_ok, ← hae]
            rw [checkKey_flat em n el ke hf d (by omega) _ (by rw [List.length_take, List.length_drop]; omega) w]
            rfl
      case struct fs =>
        cases hp : P.stoodInHeld t with
        | true => simp [hp] at h
        | false =>
          simp only [hp, cond_false] at h
          simp only [hag, aggD, valOf, cond_true, checkKey, Sem.run_bind, run_underlying hu, Result.andThen_ok]
          rw [← Array.forIn_toList]
          have key : ∀ (l : List Field) (o : Nat) (ks : List Kd), flatGo P (flatT P n) l o (P.cellsOf t) = some ks → o ≤ P.cellsOf t ∧ ∀ f ∈ l, f.offset + P.cellsOf f.type ≤ P.cellsOf t ∧ ∃ k1, flatT P n f.type = some k1 := by
            intro l
            induction l with
            | nil =>
              intro o ks hk
              simp only [flatGo] at hk
              cases hb : Nat.beq o (P.cellsOf t) with
              | false => rw [hb] at hk; cases hk
              | true => exact ⟨by have := Nat.eq_of_beq_eq_true hb; omega, by simp⟩
            | cons f l ih =>
              intro o ks hk
              simp only [flatGo] at hk
              cases hb : (f.name != "_" && Nat.beq f.offset o) with
              | false => rw [hb] at hk; cases hk
              | true =>
                simp only [hb, cond_true] at hk
                cases hf : flatT P n f.type with
                | none => simp [hf] at hk
                | some k1 =>
                  simp only [hf] at hk
                  cases hb2 : Nat.beq k1.length (P.cellsOf f.type) with
                  | false => rw [hb2] at hk; cases hk
                  | true =>
                    simp only [hb2, cond_true] at hk
                    cases hg : flatGo P (flatT P n) l (o + P.cellsOf f.type) (P.cellsOf t) with
                    | none => simp [hg] at hk
                    | some k2 =>
                      obtain ⟨j1, j2⟩ := ih _ _ hg
                      simp only [Bool.and_eq_true] at hb
                      have ho := Nat.eq_of_beq_eq_true hb.2
                      refine ⟨by omega, fun f' hf' => ?_⟩
                      rcases List.mem_cons.1 hf' with rfl | hf'
                      · exact ⟨by omega, k1, hf⟩
                      · exact j2 f' hf'
          obtain ⟨_, k2⟩ := key _ _ _ h
          refine (congrArg (fun r => Result.andThen r fun _ w' => Sem.run P (pure ()) w') (forIn_unit_run (P := P) w _ _ fun f hf => ?_)).trans rfl
          obtain ⟨q1, k1, q2⟩ := k2 f hf
          obtain ⟨de, hde⟩ : ∃ de, P.underlying f.type = some de := by
            cases n with
            | zero => simp [flatT] at q2
            | succ n => cases q : P.underlying f.type with
              | none => simp [flatT, q] at q2
              | some de => exact ⟨de, rfl⟩
          have hae : aggOf P f.type = aggD de := by simp [aggOf, hde]
          obtain ⟨i1, i2, i3⟩ := eq_flat P (fun _ => none) n f.type k1 q2
          have i2' : aggD de = false → P.cellsOf f.type = 1 := by rw [← hae]; exact i2
          split
          · simp only [Sem.run_bind]
            rw [part_run hde w xs f.offset (by omega) i2', Result.andThen_ok, ← hae]
            rw [checkKey_flat em n f.type k1 q2 d (by omega) _ (by rw [List.length_take, List.length_drop]; omega) w]
            rfl
          · rfl

/-- A key that the machine lets be asked for is one that the model lets. -/
theorem checkKey_run {t : TypeId} {i : TI} (k : TIok P t i) {key : V} {key' : Value} {b : Bool} (em : Bool) (hf : eqF i key key = some b) (hk : ren j key = some key') (w : World) : (checkKey em 10000 t key').run P w = .ok () w := by
  unfold eqF at hf
  cases hfl : i.flat with
  | none => rw [hfl] at hf; cases hf
  | some ks =>
    simp only [hfl] at hf
    have hfl' : flatT P 12 t = some ks := by rw [← k.flat_eq]; exact hfl
    obtain ⟨h1, h2, _⟩ := eq_flat P j 12 t ks hfl'
    have hag : aggOf P t = i.agg := by simp [aggOf, k.hd, k.agg_eq]
    cases ha : i.agg with
    | true =>
      rw [ha] at hf hag
      cases key <;> simp only [reduceCtorEq] at hf
      obtain ⟨c, hc, rfl⟩ := inv_a hk
      have hl := eqK_len hf
      have hl' := rens_length hc
      have := checkKey_flat (P := P) em 12 t ks hfl' 10000 (by omega) c (by omega) w
      rw [hag] at this; simpa [valOf] using this
    | false =>
      rw [ha] at hf hag
      have hf : eqK ks [key] [key] = some b := by simpa using hf
      have hl := eqK_len hf
      have := checkKey_flat (P := P) em 12 t ks hfl' 10000 (by omega) [key'] (by simp at hl; simp; omega) w
      rw [hag] at this; simpa [valOf] using this

theorem findKey_self {i : TI} {key : V} : ∀ {es : List (V × V × Nat)} {n : Nat} {r : Option (Nat × V)}, findKey i key es n = some r → (∃ b, eqF i key key = some b) ∨ ∃ k0 v0 b0 l b, es = (k0, v0, b0) :: l ∧ eqF i key k0 = some b
  | [], n, r, h => by
    left
    simp only [findKey] at h
    cases hf : eqF i key key with
    | none => simp [hf] at h
    | some b => exact ⟨b, rfl⟩
  | (k0, v0, b0) :: es, n, r, h => by
    right
    simp only [findKey] at h
    cases hf : eqF i key k0 with
    | none => simp [hf] at h
    | some b => exact ⟨k0, v0, b0, es, b, rfl, hf⟩

theorem eqK_self : ∀ {ks : List Kd} {xs ys : List V} {b : Bool}, eqK ks xs ys = some b → eqK ks xs xs = some true := by
  intro ks xs ys b h
  fun_induction eqK ks xs ys generalizing b with
  | case1 => rfl
  | case2 ks k m xs n ys b' e ih => simp [eqK, ih e]
  | case3 => cases h
  | case4 => cases h
  | case5 ks x xs y ys b' e ih => simp [eqK, ih e]
  | case6 => cases h
  | case7 ks x xs y ys b' e ih => simp [eqK, ih e]
  | case8 => cases h
  | case9 => cases h

theorem eqF_self {i : TI} {x y : V} {b : Bool} (h : eqF i x y = some b) : eqF i x x = some true := by
  unfold eqF at h ⊢
  cases hfl : i.flat with
  | none => rw [hfl] at h; cases h
  | some ks =>
    simp only [hfl] at h ⊢
    cases ha : i.agg with
    | true =>
      rw [ha] at h
      cases x <;> simp only [reduceCtorEq] at h ⊢
      cases y <;> simp only [reduceCtorEq] at h
      exact eqK_self h
    | false =>
      rw [ha] at h
      have h : eqK ks [x] [y] = some b := by simpa using h
      simpa using eqK_self h

theorem findKey_ok {i : TI} {key : V} {es : List (V × V × Nat)} {n : Nat} {r : Option (Nat × V)} (h : findKey i key es n = some r) : eqF i key key = some true := by
  rcases findKey_self h with ⟨b, hb⟩ | ⟨_, _, _, _, b, _, hb⟩
  · exact eqF_self hb
  · exact eqF_self hb

end
end Go.Am
