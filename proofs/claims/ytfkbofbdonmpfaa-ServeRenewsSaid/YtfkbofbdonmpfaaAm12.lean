/- The abstract machine: the operations that look at memory, and those that make a block. -/
import Derived.Test.YtfkbofbdonmpfaaAm11
set_option linter.unusedSimpArgs false
set_option linter.unusedVariables false
set_option linter.unusedSectionVars false
set_option linter.unnecessarySimpa false
namespace Go.Am
open Go.Instr

section
variable {P : Program} {j : Inj} {base : Nat} {w : World} {g : Nat → Option B}

theorem getObj_run {r : Nat} {o : Obj} (h : w.heap[r]? = some o) (hc : ∀ a b c, o ≠ .cells a b c) : (getObj r).run P w = .ok o w := by
  cases o <;> first | exact absurd rfl (hc _ _ _) | simp only [getObj, Sem.run, h]

theorem mark_run {q : J} {l : List V} {ty : TypeId} (hb : BRel P j base q (.c l ty true) w) (o : Nat) : ∃ w', (markStringish ⟨q.c, q.d + o, none⟩).run P w = .ok () w' ∧ Soft base w w' ∧ ∀ c, q.c ≠ c → w'.heap[c]? = w.heap[c]? := by
  have h2 := hb.2
  rw [if_pos rfl] at h2
  obtain ⟨h3, cs, fr, h4, h5, h6⟩ := h2
  have hlt := (Array.getElem?_eq_some_iff.1 h4).1
  refine ⟨w.freeze ⟨q.c, cs.size, none⟩ 1, ?_, ?_, ?_⟩
  · simp [markStringish, World.shape?, h4]
  · refine ⟨rfl, rfl, rfl, by simp [World.freeze], fun c hc => ?_, fun c => ?_⟩
    · simp only [World.freeze, Nat.one_ne_zero, if_false, Array.getElem?_modify]
      rw [if_neg (by omega)]
    · by_cases e : q.c = c
      · subst e
        right
        refine ⟨cs, ty, fr, _, h4, by simp only [World.freeze, Nat.one_ne_zero, if_false, Array.getElem?_modify, if_pos rfl, h4]; rfl, fun hh => ?_⟩
        obtain ⟨lo, hi⟩ := fr
        simp only at hh ⊢
        by_cases e : lo = hi
        · subst e; simp
        · have : (lo == hi) = false := by simpa using e
          rw [this]; simp only [Bool.false_eq_true, if_false]
          right
          rcases hh with hh | hh
          · exact absurd hh e
          · omega
      · left
        simp only [World.freeze, Nat.one_ne_zero, if_false, Array.getElem?_modify]
        rw [if_neg e]
  · intro c hc
    simp only [World.freeze, Nat.one_ne_zero, if_false, Array.getElem?_modify]
    rw [if_neg hc]

theorem bytes_run : ∀ {vs : List V} {bs : List UInt8} {vs' : List Value}, bytesOf vs = some bs → rens j vs = some vs' → ∃ ns : List Int, vs' = ns.map (Value.int .u8) ∧ bs = ns.map fun n => UInt8.ofNat n.toNat
  | [], bs, vs', h, hr => by
    cases h; cases hr; exact ⟨[], rfl, rfl⟩
  | v :: vs, bs, vs', h, hr => by
    obtain ⟨v', l1, rfl, h1, h2⟩ := rens_cons hr
    cases v with
    | i k n =>
      cases k with
      | u8 =>
        simp only [bytesOf] at h
        cases hb : bytesOf vs with
        | none => simp [hb] at h
        | some r =>
          simp only [hb, Option.some.injEq] at h; subst h
          obtain ⟨ns, rfl, rfl⟩ := bytes_run hb h2
          exact ⟨n :: ns, by rw [inv_i h1]; rfl, rfl⟩
      | _ => simp [bytesOf] at h
    | _ => simp [bytesOf] at h

theorem push_fold : ∀ (ns : List Int) (s : ByteArray), (ns.foldl (fun r n => r.push (UInt8.ofNat n.toNat)) s).data.toList = s.data.toList ++ ns.map fun n => UInt8.ofNat n.toNat
  | [], s => by simp
  | n :: ns, s => by simp only [List.foldl_cons, push_fold ns, List.map_cons]; simp

theorem entries_rel {v : V} {v' : Value} {es : List (V × V × Nat)} (G : GRel P base j g w) (h : entries g v = some es) (hv : ren j v = some v') :
    (v' = .map none ∧ es = []) ∨ ∃ c es' clock, v' = .map (some c) ∧ w.heap[c]? = some (.map es' clock) ∧ renE j es = some es'.toList := by
  unfold entries at h
  cases v <;> simp only [reduceCtorEq] at h
  case nm => left; cases h; exact ⟨inv_nm hv, rfl⟩
  case m r =>
    right
    cases hg : g r with
    | none => simp [hg] at h
    | some b =>
      cases b <;> simp only [hg, reduceCtorEq, Option.some.injEq] at h
      subst h
      obtain ⟨q, hq, hv'⟩ := inv_m hv
      obtain ⟨_, _, es', h1, h2⟩ := G r _ q hg hq
      exact ⟨q.c, es', _, hv', h1, h2⟩

theorem TIok.zv_ren {t : TypeId} {i : TI} (k : TIok P t i) (j : Inj) : ren j i.zv = some k.z := by rw [k.zv_eq]; exact ofVal_ok j 8 k.z k.okz

theorem opR_sim {e : Env} {o : Oper} {a : Act} {v : V} (h : opR (mkX P) e g o = some v) (G : GRel P base j g w) (he : Seen j e a o) :
    ∃ v' w', ren j v = some v' ∧ (execOp a.eval o).run P w = .ok (.value v') w' ∧ Soft base w w' ∧ ∀ c, (∀ r b q, g r = some b → b.own = true → j r = some q → q.c ≠ c) → w'.heap[c]? = w.heap[c]? := by
  have stay : ∀ v', ren j v = some v' → (execOp a.eval o).run P w = .ok (.value v') w → ∃ v' w', ren j v = some v' ∧ (execOp a.eval o).run P w = .ok (.value v') w' ∧ Soft base w w' ∧ ∀ c, (∀ r b q, g r = some b → b.own = true → j r = some q → q.c ≠ c) → w'.heap[c]? = w.heap[c]? :=
    fun v' h1 h2 => ⟨v', w, h1, h2, Soft.refl _ _, fun _ _ => rfl⟩
  unfold Seen at he
  unfold opR at h
  cases ho : o.op <;> simp only [ho] at h he <;> try (cases h; done)
  case load t u =>
    replace h := ti_ok' h
    obtain ⟨i, k, h⟩ := h
    have hu := he u (by simp [Op.operands])
    cases huv : ev e u <;> simp only [huv, reduceCtorEq] at h
    case p r o' =>
    rw [huv] at hu
    obtain ⟨q, hq, hv⟩ := inv_p hu
    obtain ⟨v', h1, h2⟩ := load_run k G h hq
    exact stay v' h1 (by simp [execOp, ho, Instr.loadAt, hv, sureAddr, h2])
  case lookup t m ix ok2 =>
    replace h := ti_ok' h
    obtain ⟨i, k, h⟩ := h
    have hk := k.k_eq
    have hd := k.hd
    cases hki : i.k <;> simp only [hki, reduceCtorEq] at h <;> rw [hki] at hk
    case mp kt et =>
    rw [kOf_mp hk.symm] at hd
    replace h := ti_ok' h
    obtain ⟨ki, kk, h⟩ := h
    replace h := ti_ok' h
    obtain ⟨ei, ke, h⟩ := h
    have hm := he m (by simp [Op.operands])
    have hx := he ix (by simp [Op.operands])
    cases hes : entries g (ev e m) with
    | none => simp [hes] at h
    | some es =>
      simp only [hes] at h
      cases hf : findKey ki (ev e ix) es 0 with
      | none => simp [hf] at h
      | some r =>
        simp only [hf] at h
        have hself := findKey_ok hf
        have hck := fun em => checkKey_run kk em hself hx w
        rcases entries_rel G hes hm with ⟨hv', rfl⟩ | ⟨c, es', clock, hv', hc, hr⟩
        · have hr0 : r = none := by simp only [findKey] at hf; split at hf <;> cases hf; rfl
          subst hr0
          obtain ⟨r', h1, h2⟩ := findKey_run (P := P) (w := w) kk hx (es' := []) rfl hf
          cases r' with
          | some _ => exact h2.elim
          | none =>
            simp only [Option.some.injEq] at h; subst h
            refine stay (if ok2 then .tuple #[ke.z, .bool false] else ke.z) ?_ ?_
            · cases ok2 with
              | true => simp [ren, rens, ke.zv_ren j]
              | false => simpa using ke.zv_ren j
            · simp only [execOp, ho, Instr.lookup, Sem.run_bind, run_underlying hd, Result.andThen_ok, hv', Sem.run_pure, hck]
              simp only [Array.toList_empty, h1, Result.andThen_ok, Sem.run_bind, ke.zeroValue, Sem.run_pure]
        · obtain ⟨r', h1, h2⟩ := findKey_run (P := P) (w := w) kk hx hr hf
          have hg : (getObj c).run P w = .ok (.map es' clock) w := getObj_run hc (by intros; simp)
          cases r with
          | none =>
            cases r' with
            | some _ => exact h2.elim
            | none =>
              simp only [Option.some.injEq] at h; subst h
              refine stay (if ok2 then .tuple #[ke.z, .bool false] else ke.z) ?_ ?_
              · cases ok2 with
                | true => simp [ren, rens, ke.zv_ren j]
                | false => simpa using ke.zv_ren j
              · simp only [execOp, ho, Instr.lookup, Sem.run_bind, run_underlying hd, Result.andThen_ok, hv', hg, Sem.run_pure, hck]
                simp only [h1, Result.andThen_ok, Sem.run_bind, ke.zeroValue, Sem.run_pure]
          | some rr =>
            obtain ⟨n, x⟩ := rr
            cases r' with
            | none => exact h2.elim
            | some rr' =>
              obtain ⟨n', x'⟩ := rr'
              obtain ⟨h3, h4⟩ := h2
              simp only [Option.some.injEq] at h; subst h
              refine stay (if ok2 then .tuple #[x', .bool true] else x') ?_ ?_
              · cases ok2 with
                | true => simp [ren, rens, h4]
                | false => simpa using h4
              · simp only [execOp, ho, Instr.lookup, Sem.run_bind, run_underlying hd, Result.andThen_ok, hv', hg, Sem.run_pure, hck]
                simp only [h1, Result.andThen_ok, Sem.run_bind, Sem.run_pure, pure_bind]
  case convert s d u =>
    replace h := ti_ok' h
    obtain ⟨i, k, h⟩ := h
    replace h := ti_ok' h
    obtain ⟨i2, k2, h⟩ := h
    have hu := he u (by simp [Op.operands])
    have hk := k.k_eq
    have hd := k.hd
    have hk2 := k2.k_eq
    have hd2 := k2.hd
    cases hki : i.k <;> simp only [hki, reduceCtorEq] at h <;> rw [hki] at hk
    case sl el =>
    rw [kOf_sl hk.symm] at hd
    cases hki2 : i2.k <;> simp only [hki2, reduceCtorEq] at h <;> rw [hki2] at hk2
    case str =>
      rw [kOf_str hk2.symm] at hd2
      cases huv : ev e u <;> simp only [huv, reduceCtorEq] at h <;> rw [huv] at hu
      case ns =>
        replace h := ti_ok' h
        obtain ⟨qi, qk, h⟩ := h
        have hqk := qk.k_eq
        have hqd := qk.hd
        cases hq : qi.k <;> simp only [hq, reduceCtorEq] at h <;> rw [hq] at hqk
        rename_i kk
        cases kk <;> simp only [reduceCtorEq, Option.some.injEq] at h
        subst h
        rw [kOf_int hqk.symm] at hqd
        refine stay _ rfl ?_
        simp only [execOp, ho, inv_ns hu, Sem.run_bind, run_convert_bytes_string w s d el _ _ _ hd hqd hd2]
        simp [Conv.bytesToString]
        rfl
      case se r o1 o2 =>
        replace h := ti_ok' h
        obtain ⟨qi, qk, h⟩ := h
        have hqk := qk.k_eq
        have hqd := qk.hd
        cases hq : qi.k <;> simp only [hq, reduceCtorEq] at h <;> rw [hq] at hqk
        rename_i kk
        cases kk <;> simp only [reduceCtorEq, Option.some.injEq] at h
        subst h
        rw [kOf_int hqk.symm] at hqd
        obtain ⟨q, _, hv⟩ := inv_se hu
        refine stay _ rfl ?_
        have := run_bytesToString (P := P) w ⟨q.c, q.d + (if q.e = 0 then o1 else o2), none⟩ 0 q.e [] (by simp [loadCells, loadCellsFrom])
        simp only [execOp, ho, hv, Sem.run_bind, run_convert_bytes_string w s d el _ _ _ hd hqd hd2, this]
        rfl
      case ze r =>
        replace h := ti_ok' h
        obtain ⟨qi, qk, h⟩ := h
        have hqk := qk.k_eq
        have hqd := qk.hd
        cases hq : qi.k <;> simp only [hq, reduceCtorEq] at h <;> rw [hq] at hqk
        rename_i kk
        cases kk <;> simp only [reduceCtorEq, Option.some.injEq] at h
        subst h
        rw [kOf_int hqk.symm] at hqd
        obtain ⟨q, _, hv⟩ := inv_ze hu
        refine stay _ rfl ?_
        have := run_bytesToString (P := P) w ⟨q.c, q.d, q.s⟩ 0 0 [] (by simp [loadCells, loadCellsFrom])
        simp only [execOp, ho, hv, Sem.run_bind, run_convert_bytes_string w s d el _ _ _ hd hqd hd2, this]
        rfl
      case sl r o1 n cap b =>
        replace h := ti_ok' h
        obtain ⟨qi, qk, h⟩ := h
        have hqk := qk.k_eq
        have hqd := qk.hd
        cases hq : qi.k <;> simp only [hq, reduceCtorEq] at h <;> rw [hq] at hqk
        rename_i kk
        cases kk <;> try (cases h; done)
        rw [kOf_int hqk.symm] at hqd
        obtain ⟨q, hjr, hv⟩ := inv_sl hu
        cases hg : g r with
        | none => simp [hg] at h
        | some bb =>
          cases bb <;> simp only [hg, reduceCtorEq] at h
          rename_i l ty own
          cases hs : sub l o1 n with
          | none => simp [hs] at h
          | some vs =>
            simp only [hs] at h
            cases hb : bytesOf vs with
            | none => simp [hb] at h
            | some bs =>
              simp only [hb, Option.some.injEq] at h; subst h
              obtain ⟨vs', h1, h2, h3⟩ := loadCells_run (P := P) (G r _ q hg hjr).cells hs
              obtain ⟨ns, rfl, rfl⟩ := bytes_run hb h1
              refine stay _ rfl ?_
              have := run_bytesToString (P := P) w ⟨q.c, q.d + o1, none⟩ n (cap + if b then q.e else 0) ns h2
              simp only [execOp, ho, hv, Sem.run_bind, run_convert_bytes_string w s d el _ _ _ hd hqd hd2, this, Result.andThen_ok, Sem.run_pure]
              congr 3
              apply ByteArray.ext
              apply Array.ext'
              rw [push_fold]
              simp
    case sl el2 =>
      rw [kOf_sl hk2.symm] at hd2
      cases huv : ev e u <;> simp only [huv, reduceCtorEq] at h <;> rw [huv] at hu
      case sl r o1 n cap b =>
        replace h := ti_ok' h
        obtain ⟨qi, qk, h⟩ := h
        have hqk := qk.k_eq
        have hqd := qk.hd
        cases hq : qi.k <;> simp only [hq, reduceCtorEq] at h <;> rw [hq] at hqk
        rename_i kk
        cases kk <;> try (cases h; done)
        rw [kOf_int hqk.symm] at hqd
        obtain ⟨q, hjr, hv⟩ := inv_sl hu
        cases hg : g r with
        | none => simp [hg] at h
        | some bb =>
          cases bb <;> simp only [hg, reduceCtorEq] at h
          rename_i l ty own
          cases hb : (own && Nat.beq s d) with
          | false => rw [hb] at h; cases h
          | true =>
            rw [hb] at h; cases h
            simp only [Bool.and_eq_true] at hb
            obtain ⟨rfl, hsd⟩ := hb
            obtain rfl := Nat.eq_of_beq_eq_true hsd
            obtain ⟨w', m1, m2, m3⟩ := mark_run (P := P) (G r _ q hg hjr) o1
            rw [hd] at hd2; cases hd2
            refine ⟨_, w', hu, ?_, m2, fun c hc => m3 c (hc r _ q hg rfl hjr)⟩
            simp only [execOp, ho, hv, convert, Sem.run_bind, run_underlying hd, Result.andThen_ok, run_underlying hqd, beq_self_eq_true, m1, Sem.run_pure]
  case call c =>
    obtain ⟨callee, args, argTypes⟩ := c
    simp only [builtinR] at h
    cases callee with
    | value _ => simp at h
    | invoke _ _ => simp at h
    | builtin b =>
      simp only at h
      obtain ⟨al⟩ := args
      obtain ⟨tl⟩ := argTypes
      cases b <;> simp only [reduceCtorEq] at h
      split at h
      · rename_i u t
        replace h := ti_ok' h
        obtain ⟨i, k, h⟩ := h
        have hu := he u (by simp [Op.operands, Call.operands])
        have hk := k.k_eq
        have hd := k.hd
        cases hki : i.k <;> simp only [hki, reduceCtorEq] at h <;> rw [hki] at hk
        case mp kt et =>
        rw [kOf_mp hk.symm] at hd
        cases hes : entries g (ev e u) with
        | none => simp [hes] at h
        | some es =>
          simp only [hes, Option.some.injEq] at h; subst h
          refine stay _ rfl ?_
          rcases entries_rel G hes hu with ⟨hv, rfl⟩ | ⟨c, es', clock, hv, hc, hr⟩
          · simp [execOp, ho, resolve, invoke, builtin, Builtin.len_, run_underlying hd, hv, goInt]
          · have hg : (getObj c).run P w = .ok (.map es' clock) w := getObj_run hc (by intros; simp)
            have hlen := renE_length hr
            simp only [Array.length_toList] at hlen
            simp [execOp, ho, resolve, invoke, builtin, Builtin.len_, run_underlying hd, hv, hg, goInt]
            omega
      · cases h


end
end Go.Am
