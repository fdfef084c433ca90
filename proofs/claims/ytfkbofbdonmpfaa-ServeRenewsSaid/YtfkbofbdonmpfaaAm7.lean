/- The abstract machine: the operations that look at no memory. -/
import Derived.Test.YtfkbofbdonmpfaaAm6
set_option linter.unusedSimpArgs false
set_option linter.unusedVariables false
set_option linter.unusedSectionVars false
set_option linter.unnecessarySimpa false
namespace Go.Am

section
variable {P : Program} {j : Inj} (w : World)

theorem inv_b {x : Bool} {v' : Value} (h : ren j (.b x) = some v') : v' = .bool x := by simp only [ren, Option.some.injEq] at h; exact h.symm
theorem inv_i {k : IntKind} {n : Int} {v' : Value} (h : ren j (.i k n) = some v') : v' = .int k n := by simp only [ren, Option.some.injEq] at h; exact h.symm
theorem inv_s {l : List UInt8} {v' : Value} (h : ren j (.s l) = some v') : v' = .string ⟨⟨l⟩⟩ := by simp only [ren, Option.some.injEq] at h; exact h.symm
theorem inv_np {v' : Value} (h : ren j .np = some v') : v' = .pointer none := by simp only [ren, Option.some.injEq] at h; exact h.symm
theorem inv_ns {v' : Value} (h : ren j .ns = some v') : v' = .slice none 0 0 := by simp only [ren, Option.some.injEq] at h; exact h.symm
theorem inv_nm {v' : Value} (h : ren j .nm = some v') : v' = .map none := by simp only [ren, Option.some.injEq] at h; exact h.symm
theorem inv_nf {v' : Value} (h : ren j .nf = some v') : v' = .nilFunc := by simp only [ren, Option.some.injEq] at h; exact h.symm
theorem inv_ni {v' : Value} (h : ren j .ni = some v') : v' = .nilIface := by simp only [ren, Option.some.injEq] at h; exact h.symm
theorem inv_p {r o : Nat} {v' : Value} (h : ren j (.p r o) = some v') : ∃ q, j r = some q ∧ v' = .pointer (some ⟨q.c, q.d + o, none⟩) := by
  simp only [ren, Option.map_eq_some_iff] at h; obtain ⟨q, a, rfl⟩ := h; exact ⟨q, a, rfl⟩
theorem inv_sl {r o n c : Nat} {el : Bool} {v' : Value} (h : ren j (.sl r o n c el) = some v') : ∃ q, j r = some q ∧ v' = .slice (some ⟨q.c, q.d + o, none⟩) n (c + if el then q.e else 0) := by
  simp only [ren, Option.map_eq_some_iff] at h; obtain ⟨q, a, rfl⟩ := h; exact ⟨q, a, rfl⟩
theorem inv_se {r o o' : Nat} {v' : Value} (h : ren j (.se r o' o) = some v') : ∃ q, j r = some q ∧ v' = .slice (some ⟨q.c, q.d + (if q.e = 0 then o' else o), none⟩) 0 q.e := by
  simp only [ren, Option.map_eq_some_iff] at h; obtain ⟨q, a, rfl⟩ := h; exact ⟨q, a, rfl⟩
theorem inv_ze {r : Nat} {v' : Value} (h : ren j (.ze r) = some v') : ∃ q, j r = some q ∧ v' = .slice (some ⟨q.c, q.d, q.s⟩) 0 0 := by
  simp only [ren, Option.map_eq_some_iff] at h; obtain ⟨q, a, rfl⟩ := h; exact ⟨q, a, rfl⟩
theorem inv_m {r : Nat} {v' : Value} (h : ren j (.m r) = some v') : ∃ q, j r = some q ∧ v' = .map (some q.c) := by
  simp only [ren, Option.map_eq_some_iff] at h; obtain ⟨q, a, rfl⟩ := h; exact ⟨q, a, rfl⟩
theorem inv_f {fn : FuncId} {cs : List V} {v' : Value} (h : ren j (.f fn cs) = some v') : ∃ l, rens j cs = some l ∧ v' = .func (.func fn) #[] ⟨l⟩ := by
  simp only [ren, Option.map_eq_some_iff] at h; obtain ⟨q, a, rfl⟩ := h; exact ⟨q, a, rfl⟩
theorem inv_ic {t : TypeId} {v : V} {v' : Value} (h : ren j (.ic t v) = some v') : ∃ u, ren j v = some u ∧ v' = .iface t u := by
  simp only [ren, Option.map_eq_some_iff] at h; obtain ⟨q, a, rfl⟩ := h; exact ⟨q, a, rfl⟩
theorem inv_a {l : List V} {v' : Value} (h : ren j (.a l) = some v') : ∃ l', rens j l = some l' ∧ v' = .agg ⟨l'⟩ := by
  simp only [ren, Option.map_eq_some_iff] at h; obtain ⟨q, a, rfl⟩ := h; exact ⟨q, a, rfl⟩
theorem inv_t {l : List V} {v' : Value} (h : ren j (.t l) = some v') : ∃ l', rens j l = some l' ∧ v' = .tuple ⟨l'⟩ := by
  simp only [ren, Option.map_eq_some_iff] at h; obtain ⟨q, a, rfl⟩ := h; exact ⟨q, a, rfl⟩

/-! ### Arithmetic -/

theorem ibin_run {op : BinOp} {k : IntKind} {x y : Int} {r : V} (t : TypeId) (h : ibin op k x y = some r) : ∃ r', ren j r = some r' ∧ (binOp op t (.int k x) (.int k y)).run P w = .ok r' w := by
  cases op <;> simp only [ibin, reduceCtorEq, Option.some.injEq] at h
  case add => subst h; exact ⟨_, rfl, by simp [binOp, Op.intArith]⟩
  case sub => subst h; exact ⟨_, rfl, by simp [binOp, Op.intArith]⟩
  case mul => subst h; exact ⟨_, rfl, by simp [binOp, Op.intArith]⟩
  case quo => by_cases e : y = 0
              · simp [e] at h
              · simp only [e, if_false, Option.some.injEq] at h; subst h; exact ⟨_, rfl, by simp [binOp, Op.intDiv, e]⟩
  case rem => by_cases e : y = 0
              · simp [e] at h
              · simp only [e, if_false, Option.some.injEq] at h; subst h; exact ⟨_, rfl, by simp [binOp, Op.intDiv, e]⟩
  case and => subst h; exact ⟨_, rfl, by simp only [binOp, Op.intBits, ne_eq, not_true_eq_false, if_false, Sem.run_pure]⟩
  case or => subst h; exact ⟨_, rfl, by simp only [binOp, Op.intBits, ne_eq, not_true_eq_false, if_false, Sem.run_pure]⟩
  case xor => subst h; exact ⟨_, rfl, by simp only [binOp, Op.intBits, ne_eq, not_true_eq_false, if_false, Sem.run_pure]⟩
  case andNot => subst h; exact ⟨_, rfl, by simp only [binOp, Op.intBits, ne_eq, not_true_eq_false, if_false, Sem.run_pure]⟩
  case eql => subst h; exact ⟨_, rfl, by simp only [binOp, Op.intCmp, ne_eq, not_true_eq_false, if_false, Sem.run_pure]; rfl⟩
  case neq => subst h; exact ⟨_, rfl, by simp only [binOp, Op.intCmp, ne_eq, not_true_eq_false, if_false, Sem.run_pure]; rfl⟩
  case lss => subst h; exact ⟨_, rfl, by simp only [binOp, Op.intCmp, ne_eq, not_true_eq_false, if_false, Sem.run_pure]⟩
  case leq => subst h; exact ⟨_, rfl, by simp only [binOp, Op.intCmp, ne_eq, not_true_eq_false, if_false, Sem.run_pure]⟩
  case gtr => subst h; exact ⟨_, rfl, by simp only [binOp, Op.intCmp, ne_eq, not_true_eq_false, if_false, Sem.run_pure]⟩
  case geq => subst h; exact ⟨_, rfl, by simp only [binOp, Op.intCmp, ne_eq, not_true_eq_false, if_false, Sem.run_pure]⟩

theorem shft_run {op : BinOp} {k k' : IntKind} {x y : Int} {r : V} (t : TypeId) (hop : op = .shl ∨ op = .shr) (h : shft op k x y = some r) : ∃ r', ren j r = some r' ∧ (binOp op t (.int k x) (.int k' y)).run P w = .ok r' w := by
  unfold shft at h
  by_cases e : y < 0
  · simp [e] at h
  · simp only [e, if_false] at h
    rcases hop with rfl | rfl <;> simp only [Option.some.injEq] at h <;> subst h
    · exact ⟨_, rfl, by simp only [binOp, Op.shift, e, if_false, Sem.run_pure]⟩
    · exact ⟨_, rfl, by simp only [binOp, Op.shift, e, if_false, Sem.run_pure]⟩

theorem lessB_eq : ∀ x y : List UInt8, lessB x y = Op.bytesLess x y
  | _, [] => by simp [lessB, Op.bytesLess]
  | [], _ :: _ => by simp [lessB, Op.bytesLess]
  | a :: x, b :: y => by simp [lessB, Op.bytesLess, lessB_eq x y]

theorem sbin_run {op : BinOp} {x y : List UInt8} {r : V} (t : TypeId) (h : sbin op x y = some r) : ∃ r', ren j r = some r' ∧ (binOp op t (.string ⟨⟨x⟩⟩) (.string ⟨⟨y⟩⟩)).run P w = .ok r' w := by
  have hb : ∀ z : List UInt8, (ByteArray.mk ⟨z⟩).toList = z := fun z => by rw [ByteArray.toList_eq]
  cases op <;> simp only [sbin, reduceCtorEq, Option.some.injEq] at h
  case add =>
    cases e : Nat.ble (x.length + y.length) 1099511627776 with
    | false => rw [e] at h; cases h
    | true =>
      rw [e] at h; cases h
      have e' := Nat.le_of_ble_eq_true e
      refine ⟨_, rfl, ?_⟩
      simp only [binOp, Op.stringOp]
      rw [if_neg (by simp only [IntKind.max_i64]; simp only [ByteArray.size, List.size_toArray]; omega)]
      simp only [Sem.run_pure]
      congr 2
  case eql => subst h; exact ⟨_, rfl, by simp only [binOp, Op.stringOp, Sem.run_pure, hb]⟩
  case neq => subst h; exact ⟨_, rfl, by simp only [binOp, Op.stringOp, Sem.run_pure, hb]⟩
  case lss => subst h; exact ⟨_, rfl, by simp only [binOp, Op.stringOp, Sem.run_pure, hb, lessB_eq]⟩
  case leq => subst h; exact ⟨_, rfl, by simp only [binOp, Op.stringOp, Sem.run_pure, hb, lessB_eq]⟩
  case gtr => subst h; exact ⟨_, rfl, by simp only [binOp, Op.stringOp, Sem.run_pure, hb, lessB_eq]⟩
  case geq => subst h; exact ⟨_, rfl, by simp only [binOp, Op.stringOp, Sem.run_pure, hb, lessB_eq]⟩

/-! ### Equality -/

theorem guardType_flat : ∀ (n : Nat) (t : TypeId) (ks : List Kd), flatT P n t = some ks → ∀ d, n ≤ d → P.eqGuardType d t = false
  | 0, t, ks, h, _, _ => by simp [flatT] at h
  | n + 1, t, ks, h, d, hd => by
    obtain ⟨d, rfl⟩ : ∃ d', d = d' + 1 := ⟨d - 1, by omega⟩
    unfold Program.eqGuardType
    cases hu : P.underlying t with
    | none => rfl
    | some dd =>
      simp only [flatT, hu] at h
      cases dd <;> simp only [reduceCtorEq] at h <;> try rfl
      case array len el =>
        cases hf : flatT P n el with
        | none => simp [hf] at h
        | some ke => exact guardType_flat n el ke hf d (by omega)
      case struct fs =>
        cases hp : P.stoodInHeld t with
        | true => simp [hp] at h
        | false =>
          simp only [hp, cond_false] at h
          have key : ∀ (l : List Field) (o m : Nat) (ks : List Kd), flatGo P (flatT P n) l o m = some ks → (l.any fun f => f.name != "_" && P.eqGuardType d f.type) = false := by
            intro l
            induction l with
            | nil => intros; rfl
            | cons f l ih =>
              intro o m ks hk
              simp only [flatGo] at hk
              cases hb : (f.name != "_" && Nat.beq f.offset o) with
              | false => rw [hb] at hk; cases hk
              | true =>
                simp only [hb, cond_true] at hk
                cases hf : flatT P n f.type with
                | none => simp [hf] at hk
                | some k1 =>
                  simp only [hf] at hk
                  cases hb2 : Nat.beq k1.length (P.cellsOf f.type) with
                  | false => rw [hb2] at hk; cases hk
                  | true =>
                    simp only [hb2, cond_true] at hk
                    cases hg : flatGo P (flatT P n) l (o + P.cellsOf f.type) m with
                    | none => simp [hg] at hk
                    | some k2 =>
                      simp only [List.any_cons, guardType_flat n f.type k1 hf d (by omega), Bool.and_false, Bool.false_or]
                      exact ih _ _ _ hg
          have := key _ _ _ _ h
          simpa [← Array.any_toList] using this

theorem eqF_run {t : TypeId} {i : TI} (k : TIok P t i) {x y : V} {b : Bool} {x' y' : Value} (h : eqF i x y = some b) (hx : ren j x = some x') (hy : ren j y = some y') :
    (∀ d w, 12 ≤ d → (Op.equalIn d t x' y').run P w = .ok b w) ∧ P.eqGuardType P.depth t = false ∧ (i.agg = true → ∃ c c', x' = .agg c ∧ y' = .agg c') ∧ (i.agg = false → (∃ u, x' = .bool u) ∨ (∃ q n, x' = .int q n) ∨ ∃ s, x' = .string s) := by
  unfold eqF at h
  cases hf : i.flat with
  | none => rw [hf] at h; cases h
  | some ks =>
    simp only [hf] at h
    have hfl : flatT P 12 t = some ks := by rw [← k.flat_eq]; exact hf
    obtain ⟨h1, h2, h3⟩ := eq_flat P j 12 t ks hfl
    have hag : aggOf P t = i.agg := by simp [aggOf, k.hd, k.agg_eq]
    have hg := guardType_flat 12 t ks hfl P.depth (by unfold Program.depth Made.depth; omega)
    cases ha : i.agg with
    | true =>
      rw [ha] at h hag
      split at h
      · rename_i l l' _
        obtain ⟨c, hc, rfl⟩ := inv_a hx
        obtain ⟨c', hc', rfl⟩ := inv_a hy
        refine ⟨fun d w hd => ?_, hg, fun _ => ⟨_, _, rfl, rfl⟩, (fun e => by cases e)⟩
        have := h3 d hd l l' b c c' h hc hc' w
        rw [hag] at this; simpa [valOf] using this
      · cases h
      · rename_i hh; cases hh
    | false =>
      rw [ha] at h hag
      have h : eqK ks [x] [y] = some b := by simpa using h
      have hcx : rens j [x] = some [x'] := rens_mk hx rfl
      have hcy : rens j [y] = some [y'] := rens_mk hy rfl
      refine ⟨fun d w hd => ?_, hg, (fun e => by cases e), fun _ => ?_⟩
      · have := h3 d hd [x] [y] b [x'] [y'] h hcx hcy w
        rw [hag] at this; simpa [valOf] using this
      · cases ks with
        | nil => simp [eqK] at h
        | cons kd ks =>
          cases kd <;> cases x <;> cases y <;> simp only [eqK, reduceCtorEq] at h
          · exact .inr (.inl ⟨_, _, inv_i hx⟩)
          · exact .inl ⟨_, inv_b hx⟩
          · exact .inr (.inr ⟨_, inv_s hx⟩)


theorem kOf_ptr {d : TypeDesc} {e : Nat} (h : kOf P d = .ptr e) : d = .pointer e := by cases d <;> simp_all [kOf]
theorem kOf_sl {d : TypeDesc} {e : Nat} (h : kOf P d = .sl e) : d = .slice e := by cases d <;> simp_all [kOf]
theorem kOf_arr {d : TypeDesc} {n e : Nat} (h : kOf P d = .arr n e) : d = .array n e := by cases d <;> simp_all [kOf]
theorem kOf_mp {d : TypeDesc} {n e : Nat} (h : kOf P d = .mp n e) : d = .map n e := by cases d <;> simp_all [kOf]
theorem kOf_int {d : TypeDesc} {k : IntKind} (h : kOf P d = .int k) : d = .int k := by cases d <;> simp_all [kOf]
theorem kOf_str {d : TypeDesc} (h : kOf P d = .str) : d = .string := by cases d <;> simp_all [kOf]
theorem kOf_fn {d : TypeDesc} (h : kOf P d = .fn) : ∃ a b c, d = .func a b c := by cases d <;> simp_all [kOf]
theorem kOf_ifc {d : TypeDesc} {b : Bool} (h : kOf P d = .ifc b) : ∃ a, d = .interface a := by cases d <;> simp_all [kOf]
theorem kOf_st {d : TypeDesc} {l : List (Nat × Nat × Nat)} (h : kOf P d = .st l) : ∃ fs : Array Field, d = .struct fs ∧ l = fs.toList.map fun f => (f.offset, f.type, P.cellsOf f.type) := by
  cases d <;> simp only [kOf, reduceCtorEq, K.st.injEq] at h
  exact ⟨_, rfl, h.symm⟩

theorem ren_is_int {u : V} {k : IntKind} {n : Int} (h : ren j u = some (.int k n)) : u = .i k n := by
  cases u <;> simp only [ren, reduceCtorEq, Option.some.injEq, Option.map_eq_some_iff, and_false, exists_false, Value.int.injEq] at h
  obtain ⟨rfl, rfl⟩ := h; rfl
theorem ren_is_string {u : V} {s : ByteArray} (h : ren j u = some (.string s)) : ∃ l, u = .s l := by
  cases u <;> simp only [ren, reduceCtorEq, Option.some.injEq, Option.map_eq_some_iff, and_false, exists_false] at h
  exact ⟨_, rfl⟩

def eqShape : Value → Bool
  | .int _ _ | .float _ _ | .complex _ _ _ | .string _ => false
  | _ => true

theorem binOp_eql {t : TypeId} {x y : Value} (h : eqShape x = true) : binOp .eql t x y = (do pure (.bool (← Op.equal t x y)) : Sem Value) := by
  cases x <;> first | (simp [eqShape] at h; done) | (cases y <;> rfl)
theorem binOp_neq {t : TypeId} {x y : Value} (h : eqShape x = true) : binOp .neq t x y = (do pure (.bool (!(← Op.equal t x y))) : Sem Value) := by
  cases x <;> first | (simp [eqShape] at h; done) | (cases y <;> rfl)

set_option maxHeartbeats 4000000 in
/-- What '==' says of two values, where the machine says it. -/
theorem eqOp_run {t : TypeId} {i : TI} (k : TIok P t i) {u v : V} {b : Bool} {u' v' : Value} (X Y : Operand) (h : eqOp (mkX P) i u v = some b) (hu : ren j u = some u') (hv : ren j v = some v')
    (n1 : ∀ a b, u ≠ .i a b) (n2 : ∀ l, u ≠ .s l) :
    (∀ d w, 11 ≤ d → (Op.equalIn (d + 1) t u' v').run P w = .ok b w) ∧ eqShape u' = true ∧ ∀ op w, (eqGuard op t X Y u' v').run P w = .ok () w := by
  have hk := k.k_eq
  have hd := k.hd
  unfold eqOp at h
  split at h
  · rename_i e r o r' o' hi
    rw [hi] at hk; have hd' := kOf_ptr hk.symm; rw [hd'] at hd
    obtain ⟨q, a1, rfl⟩ := inv_p hu
    obtain ⟨q', a2, rfl⟩ := inv_p hv
    obtain ⟨ie, ⟨ke⟩, h⟩ := ti_ok h
    cases hz : Nat.beq ie.sz 0 with
    | true => rw [hz] at h; cases h
    | false =>
      rw [hz] at h; simp only [cond_false] at h
      cases hr : Nat.beq r r' with
      | false => rw [hr] at h; cases h
      | true =>
        rw [hr] at h; cases h
        obtain rfl := Nat.eq_of_beq_eq_true hr
        rw [a1] at a2; cases a2
        have hz' : ie.sz ≠ 0 := Nat.ne_of_beq_eq_false hz
        have hab : ((⟨q.c, q.d + o, none⟩ : Addr) == ⟨q.c, q.d + o', none⟩) = Nat.beq o o' := by
          rw [Bool.eq_iff_iff]; simp
        refine ⟨fun d w _ => ?_, rfl, fun op w => by cases op <;> rfl⟩
        simp [Op.equalIn, run_underlying hd, ke.sizeOf, hz', sameAddr, hab]
  · rename_i hi; rw [hi] at hk; have hd' := kOf_ptr hk.symm; rw [hd'] at hd; cases h
    rw [inv_np hu, inv_np hv]
    exact ⟨fun d w _ => by simp [Op.equalIn, run_underlying hd], rfl, fun op w => by cases op <;> rfl⟩
  · rename_i hi; rw [hi] at hk; have hd' := kOf_ptr hk.symm; rw [hd'] at hd; cases h
    rw [inv_np hu]; obtain ⟨q, _, rfl⟩ := inv_p hv
    exact ⟨fun d w _ => by simp [Op.equalIn, run_underlying hd], rfl, fun op w => by cases op <;> rfl⟩
  · rename_i hi; rw [hi] at hk; have hd' := kOf_ptr hk.symm; rw [hd'] at hd; cases h
    rw [inv_np hv]; obtain ⟨q, _, rfl⟩ := inv_p hu
    exact ⟨fun d w _ => by simp [Op.equalIn, run_underlying hd], rfl, fun op w => by cases op <;> rfl⟩
  · rename_i hi; rw [hi] at hk; have hd' := kOf_sl hk.symm; rw [hd'] at hd; cases h
    rw [inv_ns hu, inv_ns hv]
    exact ⟨fun d w _ => by simp [Op.equalIn, run_underlying hd], rfl, fun op w => by cases op <;> rfl⟩
  · rename_i hi; rw [hi] at hk; have hd' := kOf_sl hk.symm; rw [hd'] at hd; cases h
    rw [inv_ns hu]; obtain ⟨q, _, rfl⟩ := inv_sl hv
    exact ⟨fun d w _ => by simp [Op.equalIn, run_underlying hd], rfl, fun op w => by cases op <;> rfl⟩
  · rename_i hi; rw [hi] at hk; have hd' := kOf_sl hk.symm; rw [hd'] at hd; cases h
    rw [inv_ns hv]; obtain ⟨q, _, rfl⟩ := inv_sl hu
    exact ⟨fun d w _ => by simp [Op.equalIn, run_underlying hd], rfl, fun op w => by cases op <;> rfl⟩
  · rename_i hi; rw [hi] at hk; have hd' := kOf_sl hk.symm; rw [hd'] at hd; cases h
    rw [inv_ns hu]; obtain ⟨q, _, rfl⟩ := inv_se hv
    exact ⟨fun d w _ => by simp [Op.equalIn, run_underlying hd], rfl, fun op w => by cases op <;> rfl⟩
  · rename_i hi; rw [hi] at hk; have hd' := kOf_sl hk.symm; rw [hd'] at hd; cases h
    rw [inv_ns hv]; obtain ⟨q, _, rfl⟩ := inv_se hu
    exact ⟨fun d w _ => by simp [Op.equalIn, run_underlying hd], rfl, fun op w => by cases op <;> rfl⟩
  · rename_i hi; rw [hi] at hk; have hd' := kOf_sl hk.symm; rw [hd'] at hd; cases h
    rw [inv_ns hu]; obtain ⟨q, _, rfl⟩ := inv_ze hv
    exact ⟨fun d w _ => by simp [Op.equalIn, run_underlying hd], rfl, fun op w => by cases op <;> rfl⟩
  · rename_i hi; rw [hi] at hk; have hd' := kOf_sl hk.symm; rw [hd'] at hd; cases h
    rw [inv_ns hv]; obtain ⟨q, _, rfl⟩ := inv_ze hu
    exact ⟨fun d w _ => by simp [Op.equalIn, run_underlying hd], rfl, fun op w => by cases op <;> rfl⟩
  · rename_i hi; rw [hi] at hk; have hd' := kOf_mp hk.symm; rw [hd'] at hd; cases h
    rw [inv_nm hu, inv_nm hv]
    exact ⟨fun d w _ => by simp [Op.equalIn, run_underlying hd], rfl, fun op w => by cases op <;> rfl⟩
  · rename_i hi; rw [hi] at hk; have hd' := kOf_mp hk.symm; rw [hd'] at hd; cases h
    rw [inv_nm hu]; obtain ⟨q, _, rfl⟩ := inv_m hv
    exact ⟨fun d w _ => by simp [Op.equalIn, run_underlying hd], rfl, fun op w => by cases op <;> rfl⟩
  · rename_i hi; rw [hi] at hk; have hd' := kOf_mp hk.symm; rw [hd'] at hd; cases h
    rw [inv_nm hv]; obtain ⟨q, _, rfl⟩ := inv_m hu
    exact ⟨fun d w _ => by simp [Op.equalIn, run_underlying hd], rfl, fun op w => by cases op <;> rfl⟩
  · rename_i hi; rw [hi] at hk; obtain ⟨_, _, _, hd'⟩ := kOf_fn hk.symm; rw [hd'] at hd; cases h
    rw [inv_nf hu, inv_nf hv]
    exact ⟨fun d w _ => by simp [Op.equalIn, run_underlying hd], rfl, fun op w => by cases op <;> rfl⟩
  · rename_i hi; rw [hi] at hk; obtain ⟨_, _, _, hd'⟩ := kOf_fn hk.symm; rw [hd'] at hd; cases h
    rw [inv_nf hu]; obtain ⟨q, _, rfl⟩ := inv_f hv
    exact ⟨fun d w _ => by simp [Op.equalIn, run_underlying hd], rfl, fun op w => by cases op <;> rfl⟩
  · rename_i hi; rw [hi] at hk; obtain ⟨_, _, _, hd'⟩ := kOf_fn hk.symm; rw [hd'] at hd; cases h
    rw [inv_nf hv]; obtain ⟨q, _, rfl⟩ := inv_f hu
    exact ⟨fun d w _ => by simp [Op.equalIn, run_underlying hd], rfl, fun op w => by cases op <;> rfl⟩
  · rename_i hi; rw [hi] at hk; obtain ⟨_, hd'⟩ := kOf_ifc hk.symm; rw [hd'] at hd; cases h
    rw [inv_ni hu]; obtain ⟨q, _, rfl⟩ := inv_ic hv
    exact ⟨fun d w _ => by simp [Op.equalIn, run_underlying hd], rfl, fun op w => by cases op <;> rfl⟩
  · rename_i hi; rw [hi] at hk; obtain ⟨_, hd'⟩ := kOf_ifc hk.symm; rw [hd'] at hd; cases h
    rw [inv_ni hv]; obtain ⟨q, _, rfl⟩ := inv_ic hu
    exact ⟨fun d w _ => by simp [Op.equalIn, run_underlying hd], rfl, fun op w => by cases op <;> rfl⟩
  · obtain ⟨e1, e2, e3, e4⟩ := eqF_run k h hu hv
    refine ⟨fun d w hd => e1 (d + 1) w (by omega), ?_⟩
    cases ha : i.agg with
    | true =>
      obtain ⟨c, c', rfl, rfl⟩ := e3 ha
      exact ⟨rfl, fun op w => by cases op <;> simp [eqGuard, e2]⟩
    | false =>
      rcases e4 ha with ⟨x, rfl⟩ | ⟨kk, n, rfl⟩ | ⟨s, rfl⟩
      · exact ⟨rfl, fun op w => by cases op <;> rfl⟩
      · exfalso
        exact n1 _ _ (ren_is_int hu)
      · exfalso
        obtain ⟨l, hl⟩ := ren_is_string hu
        exact n2 _ hl

theorem eqK_one {ks : List Kd} {u v : V} {b : Bool} (h : eqK ks [u] [v] = some b) : (∀ a c, u = .i a c → ∃ a' c', v = .i a' c') ∧ (∀ l, u = .s l → ∃ l', v = .s l') := by
  cases ks with
  | nil => simp [eqK] at h
  | cons kd ks =>
    cases kd <;> cases u <;> cases v <;> simp only [eqK, reduceCtorEq] at h <;> refine ⟨?_, ?_⟩ <;> rintro _ <;> simp

theorem eqF_like {i : TI} {u v : V} {b : Bool} (h : eqF i u v = some b) : (∀ a c, u = .i a c → ∃ a' c', v = .i a' c') ∧ (∀ l, u = .s l → ∃ l', v = .s l') := by
  unfold eqF at h
  cases hf : i.flat with
  | none => rw [hf] at h; cases h
  | some ks =>
    simp only [hf] at h
    cases ha : i.agg with
    | false => rw [ha] at h; exact eqK_one (by simpa using h)
    | true =>
      rw [ha] at h
      refine ⟨?_, ?_⟩
      · rintro a c rfl; simp at h
      · rintro l rfl; simp at h

/-- Numbers and texts are held against their like alone. -/
theorem eqOp_like {x : X} {i : TI} {u v : V} {b : Bool} (h : eqOp x i u v = some b) : (∀ a c, u = .i a c → ∃ a' c', v = .i a' c') ∧ (∀ l, u = .s l → ∃ l', v = .s l') := by
  refine ⟨?_, ?_⟩
  · rintro a c rfl
    have : eqF i (.i a c) v = some b := by unfold eqOp at h; split at h <;> simp_all
    exact (eqF_like this).1 a c rfl
  · rintro l rfl
    have : eqF i (.s l) v = some b := by unfold eqOp at h; split at h <;> simp_all
    exact (eqF_like this).2 l rfl

theorem guard_ok {op : BinOp} {t : TypeId} {X Y : Operand} {u v : Value} (h : op ≠ .eql) (h' : op ≠ .neq) : eqGuard op t X Y u v = pure () := by
  cases op <;> first | rfl | exact absurd rfl h | exact absurd rfl h'

theorem bin_run {op : BinOp} {t : TypeId} {u v r : V} {u' v' : Value} (X Y : Operand) (h : bin (mkX P) op t u v = some r) (hu : ren j u = some u') (hv : ren j v = some v') :
    ∃ r', ren j r = some r' ∧ (do eqGuard op t X Y u' v'; binOp op t u' v' : Sem Value).run P w = .ok r' w := by
  unfold bin at h
  split at h
  · rename_i k m k' n
    rw [inv_i hu, inv_i hv]
    have hg : ∀ op, eqGuard op t X Y (.int k m) (.int k' n) = pure () := fun op => by cases op <;> rfl
    rw [hg]; simp only [pure_bind]
    split at h
    · exact shft_run w t (.inl rfl) h
    · exact shft_run w t (.inr rfl) h
    · by_cases e : k = k'
      · subst e; rw [if_pos rfl] at h; exact ibin_run w t h
      · rw [if_neg e] at h; cases h
  · rename_i m n
    rw [inv_s hu, inv_s hv]
    have hg : ∀ op, eqGuard op t X Y (.string ⟨⟨m⟩⟩) (.string ⟨⟨n⟩⟩) = pure () := fun op => by cases op <;> rfl
    rw [hg]; simp only [pure_bind]
    exact sbin_run w t h
  · rename_i n1 n2
    have m1 : ∀ {i b}, eqOp (mkX P) i u v = some b → (∀ a b, u ≠ .i a b) ∧ ∀ l, u ≠ .s l := by
      intro i b hb
      obtain ⟨l1, l2⟩ := eqOp_like hb
      refine ⟨fun a c e => ?_, fun l e => ?_⟩
      · obtain ⟨a', c', e'⟩ := l1 a c e; exact n1 _ _ _ _ e e'
      · obtain ⟨l', e'⟩ := l2 l e; exact n2 _ _ e e'
    split at h
    · obtain ⟨i, ⟨k⟩, h⟩ := ti_ok h
      cases hb : eqOp (mkX P) i u v with
      | none => simp [hb] at h
      | some b =>
        simp only [hb, Option.some.injEq] at h; subst h
        obtain ⟨a1, a2, a3⟩ := eqOp_run k X Y hb hu hv (m1 hb).1 (m1 hb).2
        have a1' := a1 9999 w (by omega)
        refine ⟨_, rfl, ?_⟩
        simp only [Sem.run_bind, a3, Result.andThen_ok, binOp_eql a2, Op.equal, Op.maxDepth, Sem.run_pure]
        rw [a1']; rfl
    · obtain ⟨i, ⟨k⟩, h⟩ := ti_ok h
      cases hb : eqOp (mkX P) i u v with
      | none => simp [hb] at h
      | some b =>
        simp only [hb, Option.some.injEq] at h; subst h
        obtain ⟨a1, a2, a3⟩ := eqOp_run k X Y hb hu hv (m1 hb).1 (m1 hb).2
        have a1' := a1 9999 w (by omega)
        refine ⟨_, rfl, ?_⟩
        simp only [Sem.run_bind, a3, Result.andThen_ok, binOp_neq a2, Op.equal, Op.maxDepth, Sem.run_pure]
        rw [a1']; rfl
    · cases h

theorem un_run {op : UnOp} {v r : V} {v' : Value} (h : un op v = some r) (hv : ren j v = some v') : ∃ r', ren j r = some r' ∧ (Op.unary op v').run P w = .ok r' w := by
  unfold un at h
  split at h
  · cases h; rw [inv_i hv]; exact ⟨_, rfl, by simp [Op.unary, Op.intArith]⟩
  · rw [inv_i hv]
    simp only [ibin, Option.some.injEq] at h; subst h
    exact ⟨_, rfl, by simp only [Op.unary, Op.intBits, Sem.run_pure]⟩
  · cases h; rw [inv_b hv]; exact ⟨_, rfl, by simp [Op.unary]⟩
  · cases h

end
end Go.Am
