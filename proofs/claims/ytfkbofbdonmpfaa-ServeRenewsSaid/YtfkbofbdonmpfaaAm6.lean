/- The abstract machine: what the model's small words come to: types, constants, parts, equality. -/
import Derived.Test.YtfkbofbdonmpfaaAm5
import Derived.Laws.StructEq
set_option linter.unusedSimpArgs false
set_option linter.unusedVariables false
set_option linter.unusedSectionVars false
set_option linter.unnecessarySimpa false
namespace Go.Am

@[simp] theorem run_undef_eq : undef = Value.tuple #[] := rfl

section
variable {P : Program} {t : TypeId} {i : TI} (w : World)

theorem TIok.sz_eq (k : TIok P t i) : i.sz = k.info.size := congrArg TI.sz k.eq
theorem TIok.sz_cells (k : TIok P t i) : i.sz = P.cellsOf t := by rw [k.sz_eq]; simp [Program.cellsOf, k.hi]
theorem TIok.agg_eq (k : TIok P t i) : i.agg = aggD k.d := congrArg TI.agg k.eq
theorem TIok.k_eq (k : TIok P t i) : i.k = kOf P k.d := congrArg TI.k k.eq
theorem TIok.by_eq (k : TIok P t i) : i.by_ = k.info.bytes := congrArg TI.by_ k.eq
theorem TIok.zero_eq (k : TIok P t i) : i.zero = cellsOfV (ofVal k.z) := congrArg TI.zero k.eq
theorem TIok.zv_eq (k : TIok P t i) : i.zv = ofVal k.z := congrArg TI.zv k.eq
theorem TIok.flat_eq (k : TIok P t i) : i.flat = flatT P 12 t := congrArg TI.flat k.eq

theorem TIok.typeInfo (k : TIok P t i) : (typeInfo t).run P w = .ok k.info w := by simp [Go.typeInfo, k.hi]
theorem TIok.underlying (k : TIok P t i) : (Go.underlying t).run P w = .ok k.d w := run_underlying k.hd w
theorem TIok.sizeOf (k : TIok P t i) : (Go.sizeOf t).run P w = .ok i.sz w := by simp [Go.sizeOf, k.typeInfo w, k.sz_eq]
theorem TIok.zeroValue (k : TIok P t i) : (Go.zeroValue t).run P w = .ok k.z w := by simp [Go.zeroValue, k.typeInfo w, k.hz]
theorem isAgg_run {d : TypeDesc} (h : P.underlying t = some d) : (isAgg t).run P w = .ok (aggD d) w := by
  cases d <;> simp [isAgg, run_underlying h, aggD]
theorem TIok.isAgg (k : TIok P t i) : (Go.isAgg t).run P w = .ok i.agg w := by rw [isAgg_run w k.hd, k.agg_eq]
theorem sizeOf_run {d : TypeDesc} (h : P.underlying t = some d) : (sizeOf t).run P w = .ok (P.cellsOf t) w := by
  cases e : P.info? t with
  | none => simp [Program.underlying, e] at h
  | some info => simp [sizeOf, typeInfo, e, Program.cellsOf]
end

/-! ## Constants -/

theorem ofVals_ok {j : Inj} {d : Nat} (ih : ∀ v, okVal d v = true → ren j (ofVal v) = some v) : ∀ l : List Value, l.all (okVal d) = true → rens j (ofVals l) = some l
  | [], _ => rfl
  | v :: l, h => by
    simp only [List.all_cons, Bool.and_eq_true] at h
    exact rens_mk (ih v h.1) (ofVals_ok ih l h.2)

theorem ofVal_ok (j : Inj) : ∀ (d : Nat) (v : Value), okVal d v = true → ren j (ofVal v) = some v
  | 0, v, h => by simp [okVal] at h
  | d + 1, v, h => by
    unfold okVal at h
    split at h
    · simp [ofVal, ren]
    · simp [ofVal, ren]
    · simp [ofVal, ren]
    · simp [ofVal, ren]
    · simp [ofVal, ren]
    · simp [ofVal, ren]
    · simp [ofVal, ren]
    · simp [ofVal, ren]
    · rename_i l; simp only [ofVal, ren, ofVals_ok (fun v => ofVal_ok j d v) l h]; rfl
    · rename_i l; simp only [ofVal, ren, ofVals_ok (fun v => ofVal_ok j d v) l h]; rfl
    · cases h

theorem cells_ren {j : Inj} {v : V} {v' : Value} (h : ren j v = some v') : rens j (cellsOfV v) = some v'.cells.toList := by
  cases v with
  | a l =>
    simp only [ren] at h
    cases k : rens j l with
    | none => rw [k] at h; cases h
    | some l' => rw [k] at h; cases h; simpa [cellsOfV, Value.cells] using k
  | t l =>
    simp only [ren] at h
    cases k : rens j l with
    | none => rw [k] at h; cases h
    | some l' => rw [k] at h; cases h; simp [cellsOfV, Value.cells, rens, ren, k]
  | b x => simp only [ren, Option.some.injEq] at h; subst h; simp [cellsOfV, Value.cells, rens, ren]
  | i k n => simp only [ren, Option.some.injEq] at h; subst h; simp [cellsOfV, Value.cells, rens, ren]
  | s l => simp only [ren, Option.some.injEq] at h; subst h; simp [cellsOfV, Value.cells, rens, ren]
  | np => simp only [ren, Option.some.injEq] at h; subst h; simp [cellsOfV, Value.cells, rens, ren]
  | ns => simp only [ren, Option.some.injEq] at h; subst h; simp [cellsOfV, Value.cells, rens, ren]
  | nm => simp only [ren, Option.some.injEq] at h; subst h; simp [cellsOfV, Value.cells, rens, ren]
  | nf => simp only [ren, Option.some.injEq] at h; subst h; simp [cellsOfV, Value.cells, rens, ren]
  | ni => simp only [ren, Option.some.injEq] at h; subst h; simp [cellsOfV, Value.cells, rens, ren]
  | p r o => simp only [ren] at h; cases k : j r with
    | none => rw [k] at h; cases h
    | some q => rw [k] at h; cases h; simp [cellsOfV, Value.cells, rens, ren, k]
  | sl r o n c e => simp only [ren] at h; cases k : j r with
    | none => rw [k] at h; cases h
    | some q => rw [k] at h; cases h; simp [cellsOfV, Value.cells, rens, ren, k]
  | se r o n => simp only [ren] at h; cases k : j r with
    | none => rw [k] at h; cases h
    | some q => rw [k] at h; cases h; simp [cellsOfV, Value.cells, rens, ren, k]
  | ze r => simp only [ren] at h; cases k : j r with
    | none => rw [k] at h; cases h
    | some q => rw [k] at h; cases h; simp [cellsOfV, Value.cells, rens, ren, k]
  | m r => simp only [ren] at h; cases k : j r with
    | none => rw [k] at h; cases h
    | some q => rw [k] at h; cases h; simp [cellsOfV, Value.cells, rens, ren, k]
  | f fn cs => simp only [ren] at h; cases k : rens j cs with
    | none => rw [k] at h; cases h
    | some q => rw [k] at h; cases h; simp [cellsOfV, Value.cells, rens, ren, k]
  | ic t v => simp only [ren] at h; cases k : ren j v with
    | none => rw [k] at h; cases h
    | some q => rw [k] at h; cases h; simp [cellsOfV, Value.cells, rens, ren, k]

theorem oneV_ren {j : Inj} {v : V} {v' : Value} (h : ren j v = some v') (ho : oneV v = true) : v'.oneCell' = true := by
  cases v <;> simp only [oneV, Bool.false_eq_true] at ho <;> simp only [ren] at h
  case b => cases h; rfl
  case i => cases h; rfl
  case s => cases h; rfl
  case np => cases h; rfl
  case ns => cases h; rfl
  case nm => cases h; rfl
  case nf => cases h; rfl
  case ni => cases h; rfl
  case p r o => cases k : j r <;> rw [k] at h <;> cases h; rfl
  case sl r o _ _ _ => cases k : j r <;> rw [k] at h <;> cases h; rfl
  case se r o _ => cases k : j r <;> rw [k] at h <;> cases h; rfl
  case ze r => cases k : j r <;> rw [k] at h <;> cases h; rfl
  case m r => cases k : j r <;> rw [k] at h <;> cases h; rfl
  case f fn cs => cases k : rens j cs <;> rw [k] at h <;> cases h; rfl
  case ic t v => cases k : ren j v <;> rw [k] at h <;> cases h; rfl

/-! ## A variable's value, of its cells -/

/-- The value of the cells, in the model. -/
def valOf (agg : Bool) (l : List Value) : Value := bif agg then .agg ⟨l⟩ else l.headD undef

theorem vOfCells_ren {j : Inj} {i : TI} {l : List V} {l' : List Value} {v : V} (h : vOfCells i l = some v) (hl : rens j l = some l') : ren j v = some (valOf i.agg l') ∧ (i.agg = false → l.length = 1) := by
  unfold vOfCells at h
  cases ha : i.agg with
  | true => rw [ha] at h; simp only [cond_true, Option.some.injEq] at h; subst h; simp [ren, hl, valOf]
  | false =>
    rw [ha] at h; simp only [cond_false] at h
    split at h
    · cases h
      obtain ⟨v', l1, rfl, h1, h2⟩ := rens_cons hl
      simp [valOf, h1]
    · cases h

theorem part_run {P : Program} {t : TypeId} {d : TypeDesc} (hd : P.underlying t = some d) (w : World) (cs : List Value) (off : Nat) (h : off + P.cellsOf t ≤ cs.length) (h1 : aggD d = false → P.cellsOf t = 1) :
    (part t ⟨cs⟩ off).run P w = .ok (valOf (aggD d) ((cs.drop off).take (P.cellsOf t))) w := by
  unfold part
  simp only [Sem.run_bind, isAgg_run w hd, Result.andThen_ok]
  cases ha : aggD d with
  | true => simp [sizeOf_run w hd, valOf]
  | false =>
    have := h1 ha
    simp only [Bool.false_eq_true, if_false]
    have hlt : off < cs.length := by omega
    have hg : (⟨cs⟩ : Array Value)[off]? = some cs[off] := by simp [hlt]
    rw [hg, this]
    simp only [Sem.run_pure, valOf, cond_false]
    congr 1
    rw [List.drop_eq_getElem_cons hlt]; rfl

/-! ## Equality -/

theorem eqK_len : ∀ {ks : List Kd} {xs ys : List V} {b : Bool}, eqK ks xs ys = some b → xs.length = ks.length ∧ ys.length = ks.length := by
  intro ks xs ys b h
  fun_induction eqK ks xs ys generalizing b with
  | case1 => simp
  | case2 ks k m xs n ys b' e ih => have := ih e; simp; omega
  | case3 => cases h
  | case4 => cases h
  | case5 ks x xs y ys b' e ih => have := ih e; simp; omega
  | case6 => cases h
  | case7 ks x xs y ys b' e ih => have := ih e; simp; omega
  | case8 => cases h
  | case9 => cases h

theorem eqK_split : ∀ {k1 k2 : List Kd} {xs ys : List V} {b : Bool}, eqK (k1 ++ k2) xs ys = some b →
    ∃ b1 b2, eqK k1 (xs.take k1.length) (ys.take k1.length) = some b1 ∧ eqK k2 (xs.drop k1.length) (ys.drop k1.length) = some b2 ∧ b = (b1 && b2)
  | [], k2, xs, ys, b, h => ⟨true, b, by simp [eqK], by simpa using h, by simp⟩
  | .i :: k1, k2, xs, ys, b, h => by
    cases xs with
    | nil => simp [eqK] at h
    | cons x xs => cases ys with
      | nil => simp [eqK] at h
      | cons y ys =>
        cases x <;> cases y <;> simp only [List.cons_append, eqK, reduceCtorEq] at h
        rename_i k m k' n
        by_cases e : k = k'
        · rw [if_pos e] at h
          cases hr : eqK (k1 ++ k2) xs ys with
          | none => rw [hr] at h; cases h
          | some r =>
            rw [hr] at h; cases h
            obtain ⟨b1, b2, h1, h2, rfl⟩ := eqK_split hr
            exact ⟨decide (m = n) && b1, b2, by simp [eqK, e, h1], by simpa using h2, by simp [Bool.and_assoc]⟩
        · rw [if_neg e] at h; cases h
  | .b :: k1, k2, xs, ys, b, h => by
    cases xs with
    | nil => simp [eqK] at h
    | cons x xs => cases ys with
      | nil => simp [eqK] at h
      | cons y ys =>
        cases x <;> cases y <;> simp only [List.cons_append, eqK, reduceCtorEq] at h
        rename_i m n
        cases hr : eqK (k1 ++ k2) xs ys with
        | none => rw [hr] at h; cases h
        | some r =>
          rw [hr] at h; cases h
          obtain ⟨b1, b2, h1, h2, rfl⟩ := eqK_split hr
          exact ⟨(m == n) && b1, b2, by simp [eqK, h1], by simpa using h2, by simp [Bool.and_assoc]⟩
  | .s :: k1, k2, xs, ys, b, h => by
    cases xs with
    | nil => simp [eqK] at h
    | cons x xs => cases ys with
      | nil => simp [eqK] at h
      | cons y ys =>
        cases x <;> cases y <;> simp only [List.cons_append, eqK, reduceCtorEq] at h
        rename_i m n
        cases hr : eqK (k1 ++ k2) xs ys with
        | none => rw [hr] at h; cases h
        | some r =>
          rw [hr] at h; cases h
          obtain ⟨b1, b2, h1, h2, rfl⟩ := eqK_split hr
          exact ⟨(m == n) && b1, b2, by simp [eqK, h1], by simpa using h2, by simp [Bool.and_assoc]⟩

theorem rens_take {j : Inj} : ∀ (n : Nat) {l : List V} {l' : List Value}, rens j l = some l' → rens j (l.take n) = some (l'.take n)
  | 0, _, _, _ => by simp [rens]
  | n + 1, [], l', h => by simp [rens] at h; subst h; simp [rens]
  | n + 1, v :: l, l', h => by obtain ⟨v', l1, rfl, h0, k⟩ := rens_cons h; simpa using rens_mk h0 (rens_take n k)

def eqElems (d : Nat) (el : TypeId) (n : Nat) (xs ys : Array Value) : List Nat → Sem Bool
  | [] => pure true
  | i :: is => do
    let a ← part el xs (i * n)
    let b ← part el ys (i * n)
    let r ← Op.equalIn d el a b
    if (!r) = true then pure false else eqElems d el n xs ys is

theorem run_equalIn_array {P : Program} (w : World) (d : Nat) (t el : TypeId) (len n : Nat) (xs ys : Array Value) (ht : P.underlying t = some (.array len el)) (hn : ∀ w, (sizeOf el).run P w = .ok n w) :
    (Op.equalIn (d + 1) t (.agg xs) (.agg ys)).run P w = (eqElems d el n xs ys (List.range' 0 len)).run P w := by
  simp only [Op.equalIn, Sem.run_bind, run_underlying ht, Result.andThen_ok, hn]
  rw [Std.Legacy.Range.forIn_eq_forIn_range']
  simp only [Std.Legacy.Range.size]
  rw [show (len - 0 + 1 - 1) / 1 = len by simp]
  generalize List.range' 0 len = fs
  clear ht
  induction fs generalizing w with
  | nil => simp [eqElems]
  | cons f fs ih =>
    simp only [List.forIn_cons, eqElems, Sem.run_bind, Sem.run_ite]
    generalize (part el xs (f * n)).run P w = r1
    cases r1 with
    | ok a w1 =>
      simp only [Result.andThen_ok]
      generalize (part el ys (f * n)).run P w1 = r2
      cases r2 with
      | ok b w2 =>
        simp only [Result.andThen_ok]
        generalize (Op.equalIn d el a b).run P w2 = r3
        cases r3 with
        | ok r w3 =>
          cases r
          · simp only [Result.andThen_ok, Bool.not_false, if_true, Sem.run_pure]
          · simp only [Result.andThen_ok, Bool.not_true, Bool.false_eq_true, if_false, Sem.run_pure]
            exact ih w3
        | halt x w3 => simp [Result.andThen]
      | halt x w2 => simp [Result.andThen]
    | halt x w1 => simp [Result.andThen]

def aggOf (P : Program) (t : TypeId) : Bool := ((P.underlying t).map aggD).getD false

theorem eq_flat (P : Program) (j : Inj) : ∀ (n : Nat) (t : TypeId) (ks : List Kd), flatT P n t = some ks →
    ks.length = P.cellsOf t ∧ (aggOf P t = false → P.cellsOf t = 1) ∧
    ∀ (d : Nat), n ≤ d → ∀ (xs ys : List V) (b : Bool) (xs' ys' : List Value), eqK ks xs ys = some b → rens j xs = some xs' → rens j ys = some ys' → ∀ w : World,
      (Op.equalIn d t (valOf (aggOf P t) xs') (valOf (aggOf P t) ys')).run P w = .ok b w
  | 0, t, ks, h => by simp [flatT] at h
  | n + 1, t, ks, h => by
    have one : ∀ (kd : Kd), (bif Nat.beq (P.cellsOf t) 1 then some [kd] else none) = some ks → P.cellsOf t = 1 ∧ ks = [kd] := by
      intro kd hk
      cases hb : Nat.beq (P.cellsOf t) 1 with
      | false => rw [hb] at hk; cases hk
      | true => rw [hb] at hk; cases hk; exact ⟨by simpa using hb, rfl⟩
    cases hu : P.underlying t with
    | none => simp [flatT, hu] at h
    | some d =>
      simp only [flatT, hu] at h
      have hag : aggOf P t = aggD d := by simp [aggOf, hu]
      cases d <;> simp only [reduceCtorEq] at h
      case bool =>
        obtain ⟨h1, rfl⟩ := one .b h
        refine ⟨by simp [h1], fun _ => h1, fun d hd xs ys b xs' ys' he hx hy w => ?_⟩
        obtain ⟨d, rfl⟩ : ∃ d', d = d' + 1 := ⟨d - 1, by omega⟩
        have hl := eqK_len he
        match xs, ys, hl with
        | [x], [y], _ =>
          cases x <;> cases y <;> simp only [eqK, reduceCtorEq] at he
          cases he
          simp [rens, ren] at hx hy; subst hx hy
          simp [valOf, hag, aggD, run_equalIn_bool' w d t _ _ hu]
      case int k0 =>
        obtain ⟨h1, rfl⟩ := one .i h
        refine ⟨by simp [h1], fun _ => h1, fun d hd xs ys b xs' ys' he hx hy w => ?_⟩
        obtain ⟨d, rfl⟩ : ∃ d', d = d' + 1 := ⟨d - 1, by omega⟩
        have hl := eqK_len he
        match xs, ys, hl with
        | [x], [y], _ =>
          cases x <;> cases y <;> simp only [eqK, reduceCtorEq] at he
          rename_i k1 m1 k2 m2 _
          by_cases e : k1 = k2
          · subst e
            simp at he; subst he
            simp [rens, ren] at hx hy; subst hx hy
            simp only [valOf, hag, aggD, cond_false, List.headD_cons, run_equalIn_int w d t _ _ _ _ hu]
            rfl
          · simp [e] at he
      case string =>
        obtain ⟨h1, rfl⟩ := one .s h
        refine ⟨by simp [h1], fun _ => h1, fun d hd xs ys b xs' ys' he hx hy w => ?_⟩
        obtain ⟨d, rfl⟩ : ∃ d', d = d' + 1 := ⟨d - 1, by omega⟩
        have hl := eqK_len he
        match xs, ys, hl with
        | [x], [y], _ =>
          cases x <;> cases y <;> simp only [eqK, reduceCtorEq] at he
          simp at he; subst he
          simp [rens, ren] at hx hy; subst hx hy
          simp [valOf, hag, aggD, run_equalIn_string w d t _ _ hu, ByteArray.toList_eq]
      case array len el =>
        cases hf : flatT P n el with
        | none => simp [hf] at h
        | some ke =>
          simp only [hf] at h
          obtain ⟨i1, i2, i3⟩ := eq_flat P j n el ke hf
          cases hb : (Nat.beq ke.length (P.cellsOf el) && Nat.beq (P.cellsOf t) (len * P.cellsOf el) && Nat.ble len 64) with
          | false => rw [hb] at h; cases h
          | true =>
            rw [hb] at h; cases h
            simp only [Bool.and_eq_true] at hb
            have hb12 : P.cellsOf t = len * P.cellsOf el := Nat.eq_of_beq_eq_true hb.1.2
            have hlen : ∀ m, (replK m ke).length = m * P.cellsOf el := by
              intro m; induction m with
              | zero => simp [replK]
              | succ m ih => simp [replK, ih, i1, Nat.succ_mul]; omega
            refine ⟨by rw [hlen, hb12], fun ha => by rw [hag] at ha; simp [aggD] at ha, fun d hd xs ys b xs' ys' he hx hy w => ?_⟩
            obtain ⟨d, rfl⟩ : ∃ d', d = d' + 1 := ⟨d - 1, by omega⟩
            have hl := eqK_len he
            rw [hlen] at hl
            have lx := rens_length hx
            have ly := rens_length hy
            obtain ⟨de, hde⟩ : ∃ de, P.underlying el = some de := by
              cases n with
              | zero => simp [flatT] at hf
              | succ n => cases q : P.underlying el with
                | none => simp [flatT, q] at hf
                | some de => exact ⟨de, rfl⟩
            have hae : aggOf P el = aggD de := by simp [aggOf, hde]
            have i2' : aggD de = false → P.cellsOf el = 1 := by rw [← hae]; exact i2
            simp only [hag, aggD, valOf, cond_true]
            rw [run_equalIn_array w d t el len (P.cellsOf el) _ _ hu (fun w => sizeOf_run w hde)]
            have key : ∀ (m i : Nat) (b : Bool), i + m = len → eqK (replK m ke) (xs.drop (i * P.cellsOf el)) (ys.drop (i * P.cellsOf el)) = some b →
                (eqElems d el (P.cellsOf el) ⟨xs'⟩ ⟨ys'⟩ (List.range' i m)).run P w = .ok b w := by
              intro m
              induction m with
              | zero => intro i b _ hb; have := eqK_len hb; simp only [replK] at hb this; simp only [List.length_nil, List.length_eq_zero_iff] at this; rw [this.1, this.2] at hb; simp only [eqK, Option.some.injEq] at hb; subst hb; simp [eqElems]
              | succ m ih =>
                intro i b him hb
                simp only [replK] at hb
                obtain ⟨b1, b2, h1, h2, rfl⟩ := eqK_split hb
                have hb1 : i * P.cellsOf el + P.cellsOf el ≤ len * P.cellsOf el := by
                  rw [← Nat.succ_mul]; exact Nat.mul_le_mul_right _ (by omega)
                rw [List.range'_succ]
                simp only [eqElems, Sem.run_bind]
                rw [part_run hde w xs' (i * P.cellsOf el) (by omega) i2', Result.andThen_ok, part_run hde w ys' (i * P.cellsOf el) (by omega) i2', Result.andThen_ok]
                rw [← hae, i3 d (by omega) _ _ b1 _ _ h1 (by rw [i1]; exact rens_take _ (rens_drop _ hx)) (by rw [i1]; exact rens_take _ (rens_drop _ hy)) w, Result.andThen_ok]
                rw [List.drop_drop, List.drop_drop, i1, ← Nat.succ_mul] at h2
                cases b1 with
                | false => simp
                | true => simpa using ih (i + 1) b2 (by omega) h2
            exact key len 0 b (by omega) (by simpa using he)
      case struct fs =>
        cases hp : P.stoodInHeld t with
        | true => simp [hp] at h
        | false =>
          simp only [hp, cond_false] at h
          have key : ∀ (l : List Field) (o : Nat) (ks : List Kd), flatGo P (flatT P n) l o (P.cellsOf t) = some ks →
              o + ks.length = P.cellsOf t ∧ ∀ (d : Nat), n ≤ d → ∀ (xs ys : List V) (b : Bool) (xs' ys' : List Value), xs.length = P.cellsOf t → ys.length = P.cellsOf t → eqK ks (xs.drop o) (ys.drop o) = some b → rens j xs = some xs' → rens j ys = some ys' → ∀ w : World,
                (Op.eqFields d ⟨xs'⟩ ⟨ys'⟩ l).run P w = .ok b w := by
            intro l
            induction l with
            | nil =>
              intro o ks hk
              simp only [flatGo] at hk
              cases hb : Nat.beq o (P.cellsOf t) with
              | false => rw [hb] at hk; cases hk
              | true =>
                rw [hb] at hk; cases hk
                have hb' : o = P.cellsOf t := by simpa using hb
                refine ⟨by simpa using hb', fun d _ xs ys b xs' ys' lx ly he _ _ w => ?_⟩
                rw [List.drop_of_length_le (by omega), List.drop_of_length_le (by omega)] at he
                cases he; simp [Op.eqFields]
            | cons f l ih =>
              intro o ks hk
              simp only [flatGo] at hk
              cases hb : (f.name != "_" && Nat.beq f.offset o) with
              | false => rw [hb] at hk; cases hk
              | true =>
                simp only [hb, cond_true] at hk
                cases hf : flatT P n f.type with
                | none => simp [hf] at hk
                | some k1 =>
                  simp only [hf] at hk
                  obtain ⟨i1, i2, i3⟩ := eq_flat P j n f.type k1 hf
                  cases hb2 : Nat.beq k1.length (P.cellsOf f.type) with
                  | false => rw [hb2] at hk; cases hk
                  | true =>
                    simp only [hb2, cond_true] at hk
                    cases hg : flatGo P (flatT P n) l (o + P.cellsOf f.type) (P.cellsOf t) with
                    | none => simp [hg] at hk
                    | some k2 =>
                      simp only [hg, Option.some.injEq] at hk
                      subst hk
                      obtain ⟨j1, j2⟩ := ih _ _ hg
                      simp only [Bool.and_eq_true, bne_iff_ne, ne_eq, Nat.beq_eq_true_eq] at hb
                      refine ⟨by simp [i1]; omega, fun d hd xs ys b xs' ys' lx ly he hx hy w => ?_⟩
                      obtain ⟨b1, b2, h1, h2, rfl⟩ := eqK_split he
                      obtain ⟨de, hde⟩ : ∃ de, P.underlying f.type = some de := by
                        cases n with
                        | zero => simp [flatT] at hf
                        | succ n => cases q : P.underlying f.type with
                          | none => simp [flatT, q] at hf
                          | some de => exact ⟨de, rfl⟩
                      have hae : aggOf P f.type = aggD de := by simp [aggOf, hde]
                      have i2' : aggD de = false → P.cellsOf f.type = 1 := by rw [← hae]; exact i2
                      have lx' := rens_length hx
                      have ly' := rens_length hy
                      simp only [Op.eqFields]
                      rw [if_pos hb.1]
                      simp only [Sem.run_bind]
                      rw [Nat.eq_of_beq_eq_true hb.2, part_run hde w xs' o (by omega) i2', Result.andThen_ok, part_run hde w ys' o (by omega) i2', Result.andThen_ok]
                      rw [← hae, i3 d (by omega) _ _ b1 _ _ h1 (by rw [i1]; exact rens_take _ (rens_drop _ hx)) (by rw [i1]; exact rens_take _ (rens_drop _ hy)) w, Result.andThen_ok]
                      rw [List.drop_drop, List.drop_drop, i1] at h2
                      cases b1 with
                      | false => simp
                      | true => simpa using j2 d hd xs ys b2 xs' ys' lx ly h2 hx hy w
          obtain ⟨k1, k2⟩ := key _ _ _ h
          refine ⟨by omega, fun ha => by rw [hag] at ha; simp [aggD] at ha, fun d hd xs ys b xs' ys' he hx hy w => ?_⟩
          obtain ⟨d, rfl⟩ : ∃ d', d = d' + 1 := ⟨d - 1, by omega⟩
          have hl := eqK_len he
          simp only [hag, aggD, valOf, cond_true]
          rw [run_equalIn_struct w d t _ _ (by rw [hu]; simp [Program.fieldsOf, hu]) hp]
          have hfo : P.fieldsOf t = fs := by simp [Program.fieldsOf, hu]
          rw [hfo]
          exact k2 d (by omega) xs ys b xs' ys' (by omega) (by omega) (by simpa using he) hx hy w

end Go.Am
