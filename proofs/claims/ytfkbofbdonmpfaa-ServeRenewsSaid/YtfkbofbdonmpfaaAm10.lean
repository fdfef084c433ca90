/- The abstract machine: the operations that look at no memory, in the model. -/
import Derived.Test.YtfkbofbdonmpfaaAm9
set_option linter.unusedSimpArgs false
set_option linter.unusedVariables false
set_option linter.unusedSectionVars false
set_option linter.unnecessarySimpa false
namespace Go.Am
open Go.Instr

section
variable {P : Program} {j : Inj} (w : World)

theorem vOfCells_val {P : Program} {t : TypeId} {i : TI} (k : TIok P t i) {l : List V} {l' : List Value} {v : V} (h : vOfCells i l = some v) (hl : rens j l = some l') : ren j v = some (valOf (aggD k.d) l') ∧ (aggD k.d = false → l.length = 1) := by
  have := vOfCells_ren h hl
  rwa [k.agg_eq] at this

theorem part_sim {t : TypeId} {i : TI} (k : TIok P t i) {l cs : List V} {l' : List Value} {off : Nat} {v : V} (h : sub l off i.sz = some cs) (hv : vOfCells i cs = some v) (hl : rens j l = some l') (hsz : 0 < i.sz ∨ off ≤ l.length) :
    ∃ v', ren j v = some v' ∧ (part t ⟨l'⟩ off).run P w = .ok v' w := by
  obtain ⟨h1, h2, h3⟩ := sub_eq h
  have hlen := rens_length hl
  have hcs : rens j cs = some ((l'.drop off).take i.sz) := by rw [h1]; exact rens_take _ (rens_drop _ hl)
  obtain ⟨r1, r2⟩ := vOfCells_val k hv hcs
  refine ⟨_, r1, ?_⟩
  have hs := k.sz_cells
  rw [part_run k.hd w l' off (by rw [← hs]; omega) (fun ha => by rw [← hs, ← h3]; exact r2 ha), ← hs]

theorem ti_ok' {P : Program} {α : Type} {t : TypeId} {k : TI → Option α} {v : α} (h : ti (mkX P) t k = some v) : ∃ i, ∃ q : TIok P t i, k i = some v := by
  obtain ⟨i, ⟨q⟩, h⟩ := ti_ok h
  exact ⟨i, q, h⟩

theorem opP_sim {e : Env} {o : Oper} {a : Act} {v : V} (h : opP (mkX P) e o = some v) (he : Seen j e a o) :
    ∃ v', ren j v = some v' ∧ (execOp a.eval o).run P w = .ok (.value v') w := by
  unfold Seen at he
  unfold opP at h
  cases ho : o.op <;> simp only [ho] at h he <;> try (cases h; done)
  case move u =>
    cases h
    exact ⟨_, he u (by simp [Op.operands]), by simp [execOp, ho]⟩
  case assign u =>
    cases h
    exact ⟨_, he u (by simp [Op.operands]), by simp [execOp, ho]⟩
  case pick c u x =>
    have hc := he c (by simp [Op.operands])
    cases hcv : ev e c <;> simp only [hcv, reduceCtorEq] at h
    rename_i b
    rw [hcv] at hc
    have hc' := inv_b hc
    cases b with
    | true =>
      cases h
      exact ⟨_, he u (by simp [Op.operands]), by simp [execOp, ho, hc', asBool]⟩
    | false =>
      cases h
      exact ⟨_, he x (by simp [Op.operands]), by simp [execOp, ho, hc', asBool]⟩
  case build t ps =>
    replace h := ti_ok' h
    obtain ⟨i, k, h⟩ := h
    obtain ⟨r', h1, h2⟩ := build_run (P := P) w k (parts_rel ps.toList (fun x hx => he x.2 (by simp only [Op.operands, List.mem_map]; exact ⟨x, hx, rfl⟩))) h
    refine ⟨r', h1, ?_⟩
    have e1 : (ps.map fun (i, x) => (i, a.eval x)) = ⟨ps.toList.map fun (i, x) => (i, a.eval x)⟩ := by apply Array.ext'; simp
    simp only [execOp, ho, e1, Sem.run_bind, h2, Result.andThen_ok, Sem.run_pure]
  case nilCheck u =>
    have hu := he u (by simp [Op.operands])
    cases huv : ev e u <;> simp only [huv, reduceCtorEq, Option.some.injEq] at h <;> subst h <;> rw [huv] at hu
    case p r k =>
      obtain ⟨q, hq, hv⟩ := inv_p hu
      exact ⟨_, hu, by simp [execOp, ho, hv]⟩
    case f fn cs =>
      obtain ⟨q, hq, hv⟩ := inv_f hu
      exact ⟨_, hu, by simp [execOp, ho, hv]⟩
    case ic t x =>
      obtain ⟨q, hq, hv⟩ := inv_ic hu
      exact ⟨_, hu, by simp [execOp, ho, hv]⟩
  case binOp op t u x yt =>
    obtain ⟨r', h1, h2⟩ := bin_run (P := P) w u x h (he u (by simp [Op.operands])) (he x (by simp [Op.operands]))
    refine ⟨r', h1, ?_⟩
    simp only [execOp, ho, Sem.run_bind] at h2 ⊢
    rw [h2]; rfl
  case unOp op t u =>
    obtain ⟨r', h1, h2⟩ := un_run (P := P) w h (he u (by simp [Op.operands]))
    exact ⟨r', h1, by simp [execOp, ho, h2]⟩
  case makeInterface t u =>
    replace h := ti_ok' h
    obtain ⟨i, k, h⟩ := h
    have hu := he u (by simp [Op.operands])
    have hk := k.k_eq
    have hni : ∀ ms, k.d ≠ .interface ms := by
      intro ms e; rw [e] at hk; simp only [kOf] at hk; rw [hk] at h; cases h
    have h : v = .ic t (ev e u) := by
      split at h
      · cases h
      · exact (Option.some.inj h).symm
    subst h
    refine ⟨.iface t (a.eval u), by simp [ren, hu], ?_⟩
    simp only [execOp, ho, Instr.makeInterface, Sem.run_bind, k.underlying, Result.andThen_ok]
    cases hd : k.d <;> first | (exact absurd hd (hni _)) | simp
  case makeFunc fn first cs =>
    cases fn <;> simp only [mkF, reduceCtorEq] at h
    case func f =>
    obtain ⟨fl⟩ := first
    cases fl with
    | cons _ _ => simp at h
    | nil =>
      simp only [Option.some.injEq] at h; subst h
      have hcs := evs_rel cs.toList (fun x hx => he x (by simp only [Op.operands]; simpa using hx))
      refine ⟨_, by simp only [ren, hcs]; rfl, ?_⟩
      simp only [execOp, ho, Instr.makeFunc, Sem.run_bind, Sem.run_pure, Result.andThen_ok]
      congr 3
      apply Array.ext'; simp
      apply Array.ext'; simp
  case slice t u lo hi mx =>
    obtain ⟨r', h1, h2⟩ := slc_run (P := P) w h (he u (by simp [Op.operands]))
      (opt_rel lo (fun y hy => he y (by subst hy; simp [Op.operands])))
      (opt_rel hi (fun y hy => he y (by subst hy; simp [Op.operands])))
      (opt_rel mx (fun y hy => he y (by subst hy; simp [Op.operands])))
    exact ⟨r', h1, by simp [execOp, ho, h2]⟩
  case fieldAddr s u f =>
    replace h := ti_ok' h
    obtain ⟨i, k, h⟩ := h
    have hu := he u (by simp [Op.operands])
    have hk := k.k_eq
    cases hki : i.k <;> simp only [hki] at h <;> try (cases h; done)
    rename_i fs
    rw [hki] at hk
    obtain ⟨fa, hfa, rfl⟩ := kOf_st hk.symm
    cases hf : (fa.toList.map fun f => (f.offset, f.type, P.cellsOf f.type))[f]? with
    | none => simp [hf] at h
    | some x =>
      obtain ⟨off, ft, sz⟩ := x
      simp only [hf] at h
      cases hb : Nat.beq sz 0 with
      | true => rw [hb] at h; cases h
      | false =>
        rw [hb] at h; simp only [cond_false] at h
        cases huv : ev e u <;> simp only [huv, reduceCtorEq, Option.some.injEq] at h
        case p r o' =>
        subst h
        rw [huv] at hu
        obtain ⟨q, hq, hv⟩ := inv_p hu
        simp only [List.getElem?_map, Array.getElem?_toList, Option.map_eq_some_iff] at hf
        obtain ⟨fd, hfd, he'⟩ := hf
        simp only [Prod.mk.injEq] at he'
        obtain ⟨rfl, rfl, rfl⟩ := he'
        have hok := k.fok
        rw [hfa] at hok
        simp only [fieldsOk, List.all_eq_true] at hok
        have hmem : fd ∈ fa.toList := by rw [← Array.getElem?_toList] at hfd; exact List.mem_of_getElem? hfd
        refine ⟨_, by simp only [ren, hq]; rfl, ?_⟩
        simp only [execOp, ho, Instr.fieldAt, Sem.run_bind, k.underlying, Result.andThen_ok, hfa, hfd, hv, sureAddr, Sem.run_pure, fieldPlace, sizeOf_any fd.type w (hok fd hmem)]
        rw [if_neg (Nat.ne_of_beq_eq_false hb)]
        simp [addr_add, Nat.add_assoc]
  case field t u f =>
    replace h := ti_ok' h
    obtain ⟨i, k, h⟩ := h
    have hu := he u (by simp [Op.operands])
    have hk := k.k_eq
    cases hki : i.k <;> simp only [hki] at h <;> try (cases h; done)
    rename_i fs
    rw [hki] at hk
    obtain ⟨fa, hfa, rfl⟩ := kOf_st hk.symm
    cases hf : (fa.toList.map fun f => (f.offset, f.type, P.cellsOf f.type))[f]? with
    | none => simp [hf] at h
    | some x =>
      obtain ⟨off, ft, sz⟩ := x
      simp only [hf] at h
      cases hb : Nat.beq sz 0 with
      | true => rw [hb] at h; cases h
      | false =>
      rw [hb] at h; simp only [cond_false] at h
      replace h := ti_ok' h
      obtain ⟨i2, k2, h⟩ := h
      cases huv : ev e u <;> simp only [huv, reduceCtorEq] at h
      case a l =>
      rw [huv] at hu
      obtain ⟨l', hl, hv⟩ := inv_a hu
      cases hs : sub l off i2.sz with
      | none => simp [hs] at h
      | some cs =>
        simp only [hs] at h
        simp only [List.getElem?_map, Array.getElem?_toList, Option.map_eq_some_iff] at hf
        obtain ⟨fd, hfd, he'⟩ := hf
        simp only [Prod.mk.injEq] at he'
        obtain ⟨rfl, rfl, rfl⟩ := he'
        obtain ⟨v', p1, p2⟩ := part_sim (P := P) w k2 hs h hl (by
          have h1 := Nat.ne_of_beq_eq_false hb
          have h2 := k2.sz_cells
          omega)
        refine ⟨v', p1, ?_⟩
        simp only [execOp, ho, Instr.field, Sem.run_bind, k.underlying, Result.andThen_ok, hfa, hfd, hv, asAgg, Sem.run_pure, p2]
  case indexAddr t u ix =>
    replace h := ti_ok' h
    obtain ⟨i, k, h⟩ := h
    have hu := he u (by simp [Op.operands])
    have hx := he ix (by simp [Op.operands])
    have hk := k.k_eq
    have hd := k.hd
    cases hxv : ev e ix <;> simp only [hxv, reduceCtorEq] at h
    case i kk n =>
    rw [hxv] at hx
    have hx' := inv_i hx
    cases n with
    | negSucc n => simp at h
    | ofNat n =>
      simp only at h
      cases hki : i.k <;> simp only [hki, reduceCtorEq] at h <;> rw [hki] at hk
      case arr len el =>
        rw [kOf_arr hk.symm] at hd
        cases huv : ev e u <;> simp only [huv, reduceCtorEq] at h
        case p r o' =>
        rw [huv] at hu
        obtain ⟨q, hq, hv⟩ := inv_p hu
        cases hb : Nat.blt n len with
        | false => rw [hb] at h; cases h
        | true =>
          rw [hb] at h; simp only [cond_true] at h
          have hlt : n < len := by simpa [Nat.blt_eq] using hb
          replace h := ti_ok' h
          obtain ⟨i2, k2, h⟩ := h
          cases h
          refine ⟨_, by simp only [ren, hq]; rfl, ?_⟩
          simp only [execOp, ho, Instr.indexAt, Sem.run_bind, hx', asIntOf, Sem.run_pure, Result.andThen_ok, run_underlying hd, hv, sureAddr]
          rw [if_pos ⟨by simp, by simp; omega⟩]
          simp only [Sem.run_bind, k2.sizeOf, Result.andThen_ok, Sem.run_pure]
          simp [addr_add, Nat.add_assoc]
      case sl el =>
        rw [kOf_sl hk.symm] at hd
        cases huv : ev e u <;> simp only [huv, reduceCtorEq] at h
        case sl r o' len cap el' =>
        rw [huv] at hu
        obtain ⟨q, hq, hv⟩ := inv_sl hu
        cases hb : Nat.blt n len with
        | false => rw [hb] at h; cases h
        | true =>
          rw [hb] at h; simp only [cond_true] at h
          have hlt : n < len := by simpa [Nat.blt_eq] using hb
          replace h := ti_ok' h
          obtain ⟨i2, k2, h⟩ := h
          cases h
          refine ⟨_, by simp only [ren, hq]; rfl, ?_⟩
          simp only [execOp, ho, Instr.indexAt, Sem.run_bind, hx', asIntOf, Sem.run_pure, Result.andThen_ok, run_underlying hd, hv]
          rw [if_pos ⟨by simp, by simp; omega⟩]
          simp only [Sem.run_bind, k2.sizeOf, Result.andThen_ok, Sem.run_pure]
          simp [addr_add, Nat.add_assoc]
  case index t u ix =>
    replace h := ti_ok' h
    obtain ⟨i, k, h⟩ := h
    have hu := he u (by simp [Op.operands])
    have hx := he ix (by simp [Op.operands])
    have hk := k.k_eq
    have hd := k.hd
    cases hxv : ev e ix <;> simp only [hxv, reduceCtorEq] at h
    case i kk n =>
    rw [hxv] at hx
    have hx' := inv_i hx
    cases n with
    | negSucc n => simp at h
    | ofNat n =>
      simp only at h
      cases hki : i.k <;> simp only [hki, reduceCtorEq] at h <;> rw [hki] at hk
      case arr len el =>
        rw [kOf_arr hk.symm] at hd
        cases huv : ev e u <;> simp only [huv, reduceCtorEq] at h
        case a l =>
        rw [huv] at hu
        obtain ⟨l', hl, hv⟩ := inv_a hu
        cases hb : Nat.blt n len with
        | false => rw [hb] at h; cases h
        | true =>
          rw [hb] at h; simp only [cond_true] at h
          have hlt : n < len := by simpa [Nat.blt_eq] using hb
          replace h := ti_ok' h
          obtain ⟨i2, k2, h⟩ := h
          cases hs : sub l (n * i2.sz) i2.sz with
          | none => simp [hs] at h
          | some cs =>
            simp only [hs] at h
            obtain ⟨v', p1, p2⟩ := part_sim (P := P) w k2 hs h hl (by
              by_cases hz : 0 < i2.sz
              · exact .inl hz
              · right; have : i2.sz = 0 := by omega
                rw [this]; simp)
            refine ⟨v', p1, ?_⟩
            simp only [execOp, ho, Instr.index, Sem.run_bind, hx', asIntOf, Sem.run_pure, Result.andThen_ok, run_underlying hd, hv]
            rw [if_pos ⟨by simp, by simp; omega⟩]
            simp only [Sem.run_bind, k2.sizeOf, Result.andThen_ok]
            simpa using congrArg (fun r => r.andThen fun v w => Result.ok (Next.value v) w) p2
      case str =>
        rw [kOf_str hk.symm] at hd
        cases huv : ev e u <;> simp only [huv, reduceCtorEq] at h
        case s l =>
        rw [huv] at hu
        have hv := inv_s hu
        cases hg : l[n]? with
        | none => simp [hg] at h
        | some c =>
          simp only [hg, Option.some.injEq] at h; subst h
          refine ⟨_, rfl, ?_⟩
          have hlt : n < l.length := (List.getElem?_eq_some_iff.1 hg).1
          have hgb : (⟨⟨l⟩⟩ : ByteArray)[n]? = some c := by
            have : n < (⟨⟨l⟩⟩ : ByteArray).size := hlt
            rw [getElem?_pos (⟨⟨l⟩⟩ : ByteArray) n this]
            congr 1
            exact (List.getElem?_eq_some_iff.1 hg).2
          simp only [execOp, ho, Instr.index, Sem.run_bind, hx', asIntOf, Sem.run_pure, Result.andThen_ok, run_underlying hd, hv]
          rw [if_pos (by simp)]
          rw [show (Int.ofNat n).toNat = n from rfl, hgb]
          rfl
  case extract u ix =>
    have hu := he u (by simp [Op.operands])
    cases huv : ev e u <;> simp only [huv, reduceCtorEq] at h
    case t l =>
    rw [huv] at hu
    obtain ⟨l', hl, hv⟩ := inv_t hu
    obtain ⟨u', h1, h2⟩ := rens_get hl h
    refine ⟨u', h2, ?_⟩
    simp [execOp, ho, Instr.extract, hv, h1]
  case convert s d u =>
    replace h := ti_ok' h
    obtain ⟨i, k, h⟩ := h
    replace h := ti_ok' h
    obtain ⟨i2, k2, h⟩ := h
    have hu := he u (by simp [Op.operands])
    have hk2 := k2.k_eq
    have hd2 := k2.hd
    cases hki : i2.k <;> simp only [hki, reduceCtorEq] at h <;> rw [hki] at hk2
    case int kd =>
      rw [kOf_int hk2.symm] at hd2
      cases huv : ev e u <;> simp only [huv, reduceCtorEq, Option.some.injEq] at h
      case i kk n =>
      subst h
      rw [huv] at hu
      refine ⟨_, rfl, ?_⟩
      simp only [execOp, ho, inv_i hu, convert, Sem.run_bind, k.underlying, run_underlying hd2, Result.andThen_ok, Conv.intToInt, Sem.run_pure]
    case str =>
      rw [kOf_str hk2.symm] at hd2
      cases huv : ev e u <;> simp only [huv, reduceCtorEq, Option.some.injEq] at h
      case s l =>
      subst h
      rw [huv] at hu
      refine ⟨_, rfl, ?_⟩
      simp only [execOp, ho, inv_s hu, convert, Sem.run_bind, k.underlying, run_underlying hd2, Result.andThen_ok]
      cases k.d <;> simp
  case call c =>
    obtain ⟨callee, args, argTypes⟩ := c
    simp only [builtinP] at h
    cases callee with
    | value _ => simp at h
    | invoke _ _ => simp at h
    | builtin b =>
      simp only at h
      obtain ⟨al⟩ := args
      obtain ⟨tl⟩ := argTypes
      cases b <;> simp only [reduceCtorEq] at h
      case len =>
        split at h
        · rename_i u t
          replace h := ti_ok' h
          obtain ⟨i, k, h⟩ := h
          have hu := he u (by simp [Op.operands, Call.operands])
          have hk := k.k_eq
          have hd := k.hd
          have key : ∀ n : Nat, v = .i .i64 n → (Builtin.len_ #[t] o.type #[a.eval u]).run P w = .ok (.int .i64 n) w → ∃ v', ren j v = some v' ∧ (execOp a.eval o).run P w = .ok (.value v') w := by
            intro n hn hr
            subst hn
            refine ⟨_, rfl, ?_⟩
            simp only [execOp, ho, resolve, Sem.run_bind, Sem.run_pure, Result.andThen_ok, invoke, builtin]
            simp [hr]
          unfold lenP at h
          cases hki : i.k <;> simp only [hki, reduceCtorEq] at h <;> rw [hki] at hk
          case str =>
            rw [kOf_str hk.symm] at hd
            cases huv : ev e u <;> simp only [huv, reduceCtorEq, Option.some.injEq] at h
            rw [huv] at hu
            exact key _ h.symm (by simp [Builtin.len_, run_underlying hd, inv_s hu, goInt]; rfl)
          case arr n el =>
            rw [kOf_arr hk.symm] at hd
            cases h
            exact key n rfl (by simp [Builtin.len_, run_underlying hd, goInt])
          case sl el =>
            rw [kOf_sl hk.symm] at hd
            cases huv : ev e u <;> simp only [huv, reduceCtorEq, Option.some.injEq] at h <;> rw [huv] at hu
            case ns => exact key 0 h.symm (by simp [Builtin.len_, run_underlying hd, inv_ns hu, goInt])
            case se => obtain ⟨q, _, hv⟩ := inv_se hu; exact key 0 h.symm (by simp [Builtin.len_, run_underlying hd, hv, goInt])
            case ze => obtain ⟨q, _, hv⟩ := inv_ze hu; exact key 0 h.symm (by simp [Builtin.len_, run_underlying hd, hv, goInt])
            case sl => obtain ⟨q, _, hv⟩ := inv_sl hu; exact key _ h.symm (by simp [Builtin.len_, run_underlying hd, hv, goInt])
          case mp kt et =>
            rw [kOf_mp hk.symm] at hd
            cases huv : ev e u <;> simp only [huv, reduceCtorEq, Option.some.injEq] at h <;> rw [huv] at hu
            exact key 0 h.symm (by simp [Builtin.len_, run_underlying hd, inv_nm hu, goInt])
        · cases h
      case cap =>
        split at h
        · rename_i u t
          replace h := ti_ok' h
          obtain ⟨i, k, h⟩ := h
          have hu := he u (by simp [Op.operands, Call.operands])
          have hk := k.k_eq
          have hd := k.hd
          have key : ∀ n : Nat, v = .i .i64 n → (Builtin.cap_ #[t] o.type #[a.eval u]).run P w = .ok (.int .i64 n) w → ∃ v', ren j v = some v' ∧ (execOp a.eval o).run P w = .ok (.value v') w := by
            intro n hn hr
            subst hn
            refine ⟨_, rfl, ?_⟩
            simp only [execOp, ho, resolve, Sem.run_bind, Sem.run_pure, Result.andThen_ok, invoke, builtin]
            simp [hr]
          unfold capP at h
          cases hki : i.k <;> simp only [hki, reduceCtorEq] at h <;> rw [hki] at hk
          case arr n el =>
            rw [kOf_arr hk.symm] at hd
            cases h
            exact key n rfl (by simp [Builtin.cap_, run_underlying hd, goInt])
          case sl el =>
            rw [kOf_sl hk.symm] at hd
            cases huv : ev e u <;> simp only [huv, reduceCtorEq, Option.some.injEq] at h <;> rw [huv] at hu
            case ns => exact key 0 h.symm (by simp [Builtin.cap_, run_underlying hd, inv_ns hu, goInt])
            case ze => obtain ⟨q, _, hv⟩ := inv_ze hu; exact key 0 h.symm (by simp [Builtin.cap_, run_underlying hd, hv, goInt])
            case sl r o' n c b =>
              cases b with
              | true => simp at h
              | false =>
                simp only [Option.some.injEq] at h
                obtain ⟨q, _, hv⟩ := inv_sl hu; exact key _ h.symm (by simp [Builtin.cap_, run_underlying hd, hv, goInt])
        · cases h
      case min =>
        split at h
        · rename_i u x
          have hu := he u (by simp [Op.operands, Call.operands])
          have hx := he x (by simp [Op.operands, Call.operands])
          unfold minP at h
          cases huv : ev e u <;> simp only [huv, reduceCtorEq] at h
          cases hxv : ev e x <;> simp only [hxv, reduceCtorEq, Option.some.injEq] at h
          subst h
          rw [huv] at hu; rw [hxv] at hx
          refine ⟨_, rfl, ?_⟩
          simp only [execOp, ho, resolve, Sem.run_bind, Sem.run_pure, Result.andThen_ok, invoke, builtin]
          simp [Builtin.min_, Builtin.min2, inv_i hu, inv_i hx]
        · cases h
      case max =>
        split at h
        · rename_i u x
          have hu := he u (by simp [Op.operands, Call.operands])
          have hx := he x (by simp [Op.operands, Call.operands])
          unfold maxP at h
          cases huv : ev e u <;> simp only [huv, reduceCtorEq] at h
          cases hxv : ev e x <;> simp only [hxv, reduceCtorEq, Option.some.injEq] at h
          subst h
          rw [huv] at hu; rw [hxv] at hx
          refine ⟨_, rfl, ?_⟩
          simp only [execOp, ho, resolve, Sem.run_bind, Sem.run_pure, Result.andThen_ok, invoke, builtin]
          simp [Builtin.max_, Builtin.max2, inv_i hu, inv_i hx]
        · cases h

end
end Go.Am
