/- The abstract machine: the operations that write. -/
import Derived.Test.YtfkbofbdonmpfaaAm16
import Derived.MapKept
set_option linter.unusedSimpArgs false
set_option linter.unusedVariables false
set_option linter.unusedSectionVars false
set_option linter.unnecessarySimpa false
namespace Go.Am
open Go.Instr

/-- What an operation gives, as a value of its destination. -/
def Got (nx : Next) (v : Value) : Prop := nx = .value v ∨ (nx = .skip ∧ v = undef)

section
variable {P : Program} {j : Inj} {base : Nat} {h : H} {w : World}

theorem zeroCells_list (z : Array Value) (n : Nat) : (Builtin.zeroCells z n).toList = (List.replicate n z.toList).flatten := by
  by_cases hz : 0 < z.toList.length
  · have := rangeCells z.toList n hz
    simpa [Builtin.zeroCells] using this
  · have : z.toList = [] := List.eq_nil_of_length_eq_zero (by omega)
    have h0 : z.size = 0 := by simpa using congrArg List.length this
    rw [this]
    have hf : (List.replicate n ([] : List Value)).flatten = [] := by
      rw [List.flatten_eq_nil_iff]; intro x hx; exact (List.mem_replicate.1 hx).2
    rw [hf]
    simp [Builtin.zeroCells, h0]

theorem zeroes_ren {t : TypeId} {i : TI} (k : TIok P t i) (n : Nat) : rens j (repl n i.zero) = some (Builtin.zeroCells k.z.cells n).toList := by
  rw [zeroCells_list]; exact repl_ren (k.zero_ren j) n

theorem appendH_sim {t t' ty : TypeId} {u x v : V} {u' x' : Value} {h' : H} (R : HRel P base j h w) (hA : appendH (mkX P) h t t' u x = some (v, h')) (hu : ren j u = some u') (hx : ren j x = some x') (F : Fresh j h.next h'.next) :
    ∃ j' v' w', (Builtin.append_ #[t, t'] ty #[u', x']).run P w = .ok v' w' ∧ Step P base j h w j' h' w' ∧ ren j' v = some v' := by
  unfold appendH at hA
  replace hA := ti_ok' hA
  obtain ⟨i, k, hA⟩ := hA
  have hk := k.k_eq
  have hd := k.hd
  cases hki : i.k <;> simp only [hki, reduceCtorEq] at hA <;> rw [hki] at hk
  case sl el =>
  rw [kOf_sl hk.symm] at hd
  replace hA := ti_ok' hA
  obtain ⟨ie, ke, hA⟩ := hA
  replace hA := ti_ok' hA
  obtain ⟨i', k', hA⟩ := hA
  have plain : ∀ n cs, (∀ kk, i'.k ≠ .int kk) → lenV x = some n → fcells h ie n x = some cs → appA h el ie u n cs = some (v, h') → ∃ j' v' w', (Builtin.append_ #[t, t'] ty #[u', x']).run P w = .ok v' w' ∧ Step P base j h w j' h' w' ∧ ren j' v = some v' := by
    intro n cs hni hl hf hA
    obtain ⟨cs', c1, c2⟩ := fcells_run (P := P) R hf hx
    refine appA_sim ke hd ⟨⟨k'.d, k'.hd, .inl ⟨fun kk e => ?_, fun m => lenV_run hl hx _, c2⟩⟩⟩ R hA hu c1 (fun hn => ?_) F
    · refine hni kk ?_
      rw [k'.k_eq, e]; rfl
    · subst hn
      unfold fcells at hf
      split at hf
      · cases hf; rfl
      · cases hf; rfl
      · cases hf; rfl
      · cases hf; rfl
      · split at hf
        · have := (sub_eq hf).2.2
          simpa using this
        · cases hf
      · cases hf
  have plain' : (∀ kk, i'.k ≠ .int kk) → (match lenV x with
      | some n => match fcells h ie n x with
        | some cs => appA h el ie u n cs
        | none => none
      | none => none) = some (v, h') → ∃ j' v' w', (Builtin.append_ #[t, t'] ty #[u', x']).run P w = .ok v' w' ∧ Step P base j h w j' h' w' ∧ ren j' v = some v' := by
    intro hni hA
    cases hl : lenV x with
    | none => simp [hl] at hA
    | some n =>
      simp only [hl] at hA
      cases hf : fcells h ie n x with
      | none => simp [hf] at hA
      | some cs =>
        simp only [hf] at hA
        exact plain n cs hni hl hf hA
  by_cases hint : ∃ kk, i'.k = .int kk
  · obtain ⟨kk, hkk⟩ := hint
    rw [hkk] at hA
    cases x <;> try (cases hA; done)
    case i q z =>
    cases z with
    | negSucc z => simp at hA
    | ofNat n =>
    replace hA : (bif Nat.ble n most && Nat.ble (n * ie.by_) most then appA h el ie u n (repl n ie.zero) else none) = some (v, h') := hA
    cases hb : Nat.ble n most && Nat.ble (n * ie.by_) most with
    | false => rw [hb] at hA; cases hA
    | true =>
      rw [hb] at hA; simp only [cond_true] at hA
      simp only [Bool.and_eq_true] at hb
      have hn : n ≤ 1099511627776 := Nat.le_of_ble_eq_true hb.1
      simp only [ren, Option.some.injEq] at hx; subst hx
      have hk' := k'.k_eq
      rw [hkk] at hk'
      have hd' := k'.hd
      rw [kOf_int hk'.symm] at hd'
      refine appA_sim ke hd ⟨⟨_, hd', .inr ⟨⟨_, rfl⟩, _, rfl, hn, fun m => ?_⟩⟩⟩ R hA hu (zeroes_ren ke n) (fun e => by subst e; rfl) F
      by_cases hz : n * ie.sz = 0
      · rw [if_pos hz]
        simp only [Sem.run_pure]
        have h1 : (Builtin.zeroCells ke.z.cells n) = #[] := by
          have h2 := rens_length (ke.zero_ren j)
          rw [ke.zero_len] at h2
          have h3 : ke.z.cells.size = ie.sz := by simpa using h2
          simp [Builtin.zeroCells, h3, hz]
        rw [h1]
      · rw [if_neg hz]
        simp only [Sem.run_bind, ke.zeroValue, Result.andThen_ok, Sem.run_pure]
  · have hni : ∀ kk, i'.k ≠ .int kk := fun kk e => hint ⟨kk, e⟩
    have plain' := plain' hni
    cases hki' : i'.k <;> rw [hki'] at hA <;> first | exact absurd hki' (hni _) | exact plain' hA

theorem copyH_sim {t ty : TypeId} {ts : List TypeId} {u x v : V} {u' x' : Value} {h' : H} (R : HRel P base j h w) (hA : copyH (mkX P) h t u x = some (v, h')) (hu : ren j u = some u') (hx : ren j x = some x') :
    ∃ v' w', (Builtin.copy_ ⟨t :: ts⟩ ty #[u', x']).run P w = .ok v' w' ∧ Step P base j h w j h' w' ∧ ren j v = some v' := by
  unfold copyH at hA
  replace hA := ti_ok' hA
  obtain ⟨i, k, hA⟩ := hA
  have hk := k.k_eq
  have hd := k.hd
  cases hki : i.k <;> simp only [hki, reduceCtorEq] at hA <;> rw [hki] at hk
  case sl el =>
  rw [kOf_sl hk.symm] at hd
  replace hA := ti_ok' hA
  obtain ⟨ie, ke, hA⟩ := hA
  cases hl : lenV u with
  | none => simp [hl] at hA
  | some m =>
    cases hl2 : lenV x with
    | none => simp [hl, hl2] at hA
    | some n =>
      simp only [hl, hl2] at hA
      cases hf : fcells h ie (min n m) x with
      | none => simp [hf] at hA
      | some cs =>
        simp only [hf] at hA
        obtain ⟨cs', c1, c2⟩ := fcells_run (P := P) R hf hx
        have c2 := c2 w.drawn
        rw [drawn_self] at c2
        have hrun := lenV_run (P := P) hl2 hx w
        have hmin : ∀ a b : Nat, Nat.min a b = min a b := fun _ _ => rfl
        have nil : ∀ a0 : Option Addr, ∀ cp, m = 0 → u' = .slice a0 0 cp → some (V.i .i64 0, h) = some (v, h') →
            ∃ v' w', (Builtin.copy_ ⟨t :: ts⟩ ty #[u', x']).run P w = .ok v' w' ∧ Step P base j h w j h' w' ∧ ren j v = some v' := by
          intro a0 cp hm hu' e
          cases e
          subst hu' hm
          have hc : cs' = [] := by
            have h1 := rens_length c1
            have : cs = [] := by
              rw [Nat.min_zero] at hf
              unfold fcells at hf
              split at hf
              · cases hf; rfl
              · cases hf; rfl
              · cases hf; rfl
              · cases hf; rfl
              · split at hf
                · have := (sub_eq hf).2.2
                  simpa using this
                · cases hf
              · cases hf
            subst this
            simpa using h1
          subst hc
          refine ⟨.int .i64 0, w, ?_, Step.refl R, rfl⟩
          simp only [Builtin.copy_, List.getElem?_toArray, List.getElem?_cons_zero, List.getElem?_cons_succ, Sem.run_bind, run_underlying hd, Result.andThen_ok, hrun, hmin, Nat.min_zero, ke.sizeOf]
          rw [Nat.min_zero] at c2
          rw [c2]
          cases a0 <;> simp [storeCells, goInt]
        cases u <;> simp only [lenV, reduceCtorEq, Option.some.injEq] at hl hA
        case ns => simp only [ren, Option.some.injEq] at hu; exact nil none 0 hl.symm hu.symm (congrArg some hA)
        case se r o' o =>
          simp only [ren, Option.map_eq_some_iff] at hu
          obtain ⟨q, hq, hu⟩ := hu
          exact nil _ _ hl.symm hu.symm (congrArg some hA)
        case ze r =>
          simp only [ren, Option.map_eq_some_iff] at hu
          obtain ⟨q, hq, hu⟩ := hu
          exact nil _ _ hl.symm hu.symm (congrArg some hA)
        case sl r o m' cp e =>
          subst hl
          simp only [ren, Option.map_eq_some_iff] at hu
          obtain ⟨q, hq, rfl⟩ := hu
          have fin : ∀ w', (storeCells ⟨q.c, q.d + o, none⟩ cs').run P w = .ok () w' → (Builtin.copy_ ⟨t :: ts⟩ ty #[.slice (some ⟨q.c, q.d + o, none⟩) m' (cp + if e = true then q.e else 0), x']).run P w = .ok (.int .i64 (min n m' : Nat)) w' := by
            intro w' hw
            simp only [Builtin.copy_, List.getElem?_toArray, List.getElem?_cons_zero, List.getElem?_cons_succ, Sem.run_bind, run_underlying hd, Result.andThen_ok, hrun, hmin, ke.sizeOf, c2, hw, Sem.run_pure, goInt]
          cases hz : Nat.beq (min n m') 0 with
          | true =>
            rw [hz] at hA; simp only [cond_true, Option.some.injEq, Prod.mk.injEq] at hA
            obtain ⟨rfl, rfl⟩ := hA
            have hz := Nat.eq_of_beq_eq_true hz
            have hc : cs' = [] := by
              have h1 := rens_length c1
              have : cs = [] := by
                rw [hz] at hf
                unfold fcells at hf
                split at hf
                · cases hf; rfl
                · cases hf; rfl
                · cases hf; rfl
                · cases hf; rfl
                · split at hf
                  · have := (sub_eq hf).2.2
                    simpa using this
                  · cases hf
                · cases hf
              subst this
              simpa using h1
            subst hc
            refine ⟨_, _, fin w (by simp [storeCells]), Step.refl R, ?_⟩
            rw [hz]; rfl
          | false =>
            rw [hz] at hA; simp only [cond_false] at hA
            cases hst : storeB h r o cs with
            | none => simp [hst] at hA
            | some h1 =>
              simp only [hst, Option.some.injEq, Prod.mk.injEq] at hA
              obtain ⟨rfl, rfl⟩ := hA
              obtain ⟨w', w1, w2⟩ := store_run R hst hq c1
              exact ⟨_, w', fin w' w1, w2, rfl⟩

theorem clearH_sim {t ty : TypeId} {u v : V} {u' : Value} {h' : H} (R : HRel P base j h w) (hA : clearH (mkX P) h t u = some (v, h')) (hu : ren j u = some u') :
    ∃ v' w', (Builtin.clear_ #[t] ty #[u']).run P w = .ok v' w' ∧ Step P base j h w j h' w' ∧ ren j v = some v' := by
  unfold clearH at hA
  replace hA := ti_ok' hA
  obtain ⟨i, k, hA⟩ := hA
  have hk := k.k_eq
  have hd := k.hd
  cases hki : i.k <;> simp only [hki, reduceCtorEq] at hA <;> rw [hki] at hk
  case sl el =>
  rw [kOf_sl hk.symm] at hd
  have nil : ∀ a0 cp, u' = .slice a0 0 cp → some (undefV, h) = some (v, h') → ∃ v' w', (Builtin.clear_ #[t] ty #[u']).run P w = .ok v' w' ∧ Step P base j h w j h' w' ∧ ren j v = some v' := by
    intro a0 cp hu' e
    cases e; subst hu'
    refine ⟨.tuple #[], w, ?_, Step.refl R, rfl⟩
    cases a0 <;> simp [Builtin.clear_, run_underlying hd]
  cases u <;> simp only [reduceCtorEq] at hA
  case ns => simp only [ren, Option.some.injEq] at hu; exact nil _ _ hu.symm hA
  case se r o' o =>
    simp only [ren, Option.map_eq_some_iff] at hu
    obtain ⟨q, hq, hu⟩ := hu
    exact nil _ _ hu.symm hA
  case ze r =>
    simp only [ren, Option.map_eq_some_iff] at hu
    obtain ⟨q, hq, hu⟩ := hu
    exact nil _ _ hu.symm hA
  case sl r o n cp e =>
    simp only [ren, Option.map_eq_some_iff] at hu
    obtain ⟨q, hq, hu⟩ := hu
    cases hz : Nat.beq n 0 with
    | true =>
      rw [hz] at hA; simp only [cond_true] at hA
      have := Nat.eq_of_beq_eq_true hz; subst this
      exact nil _ _ hu.symm hA
    | false =>
      rw [hz] at hA; simp only [cond_false] at hA
      replace hA := ti_ok' hA
      obtain ⟨ie, ke, hA⟩ := hA
      cases hst : storeB h r o (repl n ie.zero) with
      | none => simp [hst] at hA
      | some h1 =>
        simp only [hst, Option.some.injEq, Prod.mk.injEq] at hA
        obtain ⟨rfl, rfl⟩ := hA
        obtain ⟨w', w1, w2⟩ := store_run R hst hq (zeroes_ren ke n)
        refine ⟨.tuple #[], w', ?_, w2, rfl⟩
        subst hu
        cases n with
        | zero => simp at hz
        | succ n => simp [Builtin.clear_, run_underlying hd, ke.zeroValue, w1]

theorem run_setObj_not {c : Nat} {o0 o1 : Obj} (h : w.heap[c]? = some o0) (hc : ∀ a b c, o0 ≠ .cells a b c) : (setObj c o1).run P w = .ok () (wset w c o1) := by
  cases o0 <;> first | exact absurd rfl (hc _ _ _) | simp [setObj, Sem.run, h, wset]

theorem nextH_sim {ty : TypeId} {u v : V} {u' : Value} {b : Bool} {h' : H} (R : HRel P base j h w) (hA : nextH h u b = some (v, h')) (hu : ren j u = some u') :
    ∃ v' w', (Instr.next u' b ty).run P w = .ok v' w' ∧ Step P base j h w j h' w' ∧ ren j v = some v' := by
  unfold nextH at hA
  cases b with
  | false => cases hA
  | true =>
    simp only [cond_true] at hA
    cases u <;> try (cases hA; done)
    case p r o =>
    cases o <;> try (cases hA; done)
    simp only at hA
    simp only [ren, Option.map_eq_some_iff] at hu
    obtain ⟨q, hq, rfl⟩ := hu
    cases hr : h.mem.get r with
    | none => simp [hr] at hA
    | some b =>
      cases b <;> simp only [hr, reduceCtorEq] at hA
      rename_i s pos
      obtain ⟨h1, h2, h3⟩ := R.blk r _ q hr hq
      have hg : (getObj q.c).run P w = .ok (.stringIter ⟨⟨s⟩⟩ pos) w := getObj_run h3 (by intros; simp)
      have hsz : (⟨⟨s⟩⟩ : ByteArray).size = s.length := by simp [ByteArray.size]
      cases hb : Nat.blt pos s.length with
      | true =>
        rw [hb] at hA; simp only [cond_true, Option.some.injEq, Prod.mk.injEq] at hA
        obtain ⟨rfl, rfl⟩ := hA
        have hlt : pos < s.length := Nat.le_of_ble_eq_true hb
        refine ⟨.tuple #[.bool true, .int .i64 pos, .int .i32 (Utf8.decode ⟨⟨s⟩⟩ pos).1], wset w q.c (.stringIter ⟨⟨s⟩⟩ (pos + (Utf8.decode ⟨⟨s⟩⟩ pos).2)), ?_, ?_, by simp [ren, rens]⟩
        · simp only [Instr.next, h2, Nat.zero_add, Sem.run_bind, hg, Result.andThen_ok, hsz, hlt, if_true, run_setObj_not h3 (by intros; simp), Sem.run_pure, goInt]
        · refine write_step R hr hq rfl rfl ⟨h1, h2, ?_⟩
          rw [wset_get, if_pos ⟨rfl, (Array.getElem?_eq_some_iff.1 h3).1⟩]
      | false =>
        rw [hb] at hA; simp only [cond_false, Option.some.injEq, Prod.mk.injEq] at hA
        obtain ⟨rfl, rfl⟩ := hA
        have hlt : ¬ pos < s.length := by
          intro h; rw [show Nat.blt pos s.length = true from Nat.ble_eq_true_of_le h] at hb; cases hb
        refine ⟨.tuple #[.bool false], w, ?_, Step.refl R, rfl⟩
        simp only [Instr.next, h2, Nat.zero_add, Sem.run_bind, hg, Result.andThen_ok, hsz, hlt, if_false, Sem.run_pure]

theorem eqK_bits (m : Nat) : ∀ (ks : List Kd) (xs ys : List V) (xs' ys' : List Value), eqK ks xs ys = some true → rens j xs = some xs' → rens j ys = some ys' → ys'.length = xs'.length ∧ ((ys'.zip xs').all fun p => sameBits m p.1 p.2) = true
  | ks, xs, ys, xs', ys', h, hx, hy => by
    unfold eqK at h
    split at h
    · simp only [rens, Option.some.injEq] at hx hy; subst hx hy; exact ⟨rfl, rfl⟩
    · rename_i ks k m1 xs k' n1 ys
      split at h
      · rename_i hk; subst hk
        cases hb : eqK ks xs ys with
        | none => simp [hb] at h
        | some b =>
          simp only [hb, Option.some.injEq, Bool.and_eq_true, decide_eq_true_eq] at h
          obtain ⟨rfl, rfl⟩ := h
          obtain ⟨x', l1, rfl, a1, a2⟩ := rens_cons hx
          obtain ⟨y', l2, rfl, b1, b2⟩ := rens_cons hy
          simp only [ren, Option.some.injEq] at a1 b1
          subst a1 b1
          obtain ⟨c1, c2⟩ := eqK_bits m ks xs ys _ _ hb a2 b2
          exact ⟨by simp [c1], by simp only [List.zip_cons_cons, List.all_cons, c2, Bool.and_true]; cases m <;> simp [sameBits]⟩
      · cases h
    · rename_i ks x1 xs y1 ys
      cases hb : eqK ks xs ys with
      | none => simp [hb] at h
      | some b =>
        simp only [hb, Option.some.injEq, Bool.and_eq_true, beq_iff_eq] at h
        obtain ⟨rfl, rfl⟩ := h
        obtain ⟨x', l1, rfl, a1, a2⟩ := rens_cons hx
        obtain ⟨y', l2, rfl, b1, b2⟩ := rens_cons hy
        simp only [ren, Option.some.injEq] at a1 b1
        subst a1 b1
        obtain ⟨c1, c2⟩ := eqK_bits m ks xs ys _ _ hb a2 b2
        exact ⟨by simp [c1], by simp only [List.zip_cons_cons, List.all_cons, c2, Bool.and_true]; cases m <;> simp [sameBits]⟩
    · rename_i ks x1 xs y1 ys
      cases hb : eqK ks xs ys with
      | none => simp [hb] at h
      | some b =>
        simp only [hb, Option.some.injEq, Bool.and_eq_true, beq_iff_eq] at h
        obtain ⟨rfl, rfl⟩ := h
        obtain ⟨x', l1, rfl, a1, a2⟩ := rens_cons hx
        obtain ⟨y', l2, rfl, b1, b2⟩ := rens_cons hy
        simp only [ren, Option.some.injEq] at a1 b1
        subst a1 b1
        obtain ⟨c1, c2⟩ := eqK_bits m ks xs ys _ _ hb a2 b2
        exact ⟨by simp [c1], by simp only [List.zip_cons_cons, List.all_cons, c2, Bool.and_true]; cases m <;> exact (Go.MapKept.bytes_beq _ _).2 rfl⟩
    · cases h

theorem eqF_bits {i : TI} {x y : V} {x' y' : Value} (h : eqF i x y = some true) (hx : ren j x = some x') (hy : ren j y = some y') : sameBits 10000 y' x' = true := by
  unfold eqF at h
  cases hfl : i.flat with
  | none => rw [hfl] at h; cases h
  | some ks =>
    simp only [hfl] at h
    split at h
    · simp only [ren, Option.map_eq_some_iff] at hx hy
      obtain ⟨l1, a1, rfl⟩ := hx
      obtain ⟨l2, a2, rfl⟩ := hy
      obtain ⟨c1, c2⟩ := eqK_bits 9999 ks _ _ _ _ h a1 a2
      show sameBits (9999 + 1) _ _ = true
      simp only [sameBits, Bool.and_eq_true, beq_iff_eq]
      exact ⟨by simpa using c1, c2⟩
    · cases h
    · have := (eqK_bits 10000 ks [_] [_] _ _ h (rens_mk hx rfl) (rens_mk hy rfl)).2
      simpa using this

theorem findKey_hit {i : TI} {k v : V} : ∀ (es : List (V × V × Nat)) (n m : Nat), findKey i k es n = some (some (m, v)) → ∃ d k0 b0, m = n + d ∧ es[d]? = some (k0, v, b0) ∧ eqF i k k0 = some true
  | [], n, m, h => by simp only [findKey] at h; split at h <;> cases h
  | (k1, v1, b1) :: es, n, m, h => by
    simp only [findKey] at h
    split at h
    · rename_i he
      cases h; exact ⟨0, k1, b1, rfl, rfl, he⟩
    · obtain ⟨d, k0, b0, e1, e2, e3⟩ := findKey_hit es (n + 1) m h
      exact ⟨d + 1, k0, b0, by omega, by simpa using e2, e3⟩
    · cases h

theorem renE_get : ∀ (es : List (V × V × Nat)) (es' : List MapEntry) (d : Nat) (k v : V) (b : Nat), renE j es = some es' → es[d]? = some (k, v, b) → ∃ k' v', es'[d]? = some ⟨k', v', b⟩ ∧ ren j k = some k' ∧ ren j v = some v'
  | [], es', d, k, v, b, h, hd => by simp at hd
  | (k1, v1, b1) :: es, es', d, k, v, b, h, hd => by
    obtain ⟨k', v', l1, rfl, h1, h2, h3⟩ := renE_cons h
    cases d with
    | zero => simp only [List.getElem?_cons_zero, Option.some.injEq, Prod.mk.injEq] at hd; obtain ⟨rfl, rfl, rfl⟩ := hd; exact ⟨k', v', rfl, h1, h2⟩
    | succ d => simpa using renE_get es l1 d k v b h3 (by simpa using hd)

theorem renE_set : ∀ (es : List (V × V × Nat)) (es' : List MapEntry) (d : Nat) (k v : V) (k' v' : Value), renE j es = some es' → ren j k = some k' → ren j v = some v' → renE j (nthSet es d k v) = some (es'.modify d fun e => { e with key := k', val := v' })
  | [], es', d, k, v, k', v', h, _, _ => by simp only [renE, Option.some.injEq] at h; subst h; simp [nthSet, renE]
  | (k1, v1, b1) :: es, es', d, k, v, k', v', h, hk, hv => by
    obtain ⟨k2, v2, l1, rfl, h1, h2, h3⟩ := renE_cons h
    cases d with
    | zero => simp [nthSet, renE, hk, hv, h3]
    | succ d => simp [nthSet, renE, h1, h2, renE_set es l1 d k v k' v' h3 hk hv]

theorem renE_del : ∀ (es : List (V × V × Nat)) (es' : List MapEntry) (d : Nat), renE j es = some es' → renE j (nthDel es d) = some (es'.eraseIdx d)
  | [], es', d, h => by simp only [renE, Option.some.injEq] at h; subst h; simp [nthDel, renE]
  | (k1, v1, b1) :: es, es', d, h => by
    obtain ⟨k2, v2, l1, rfl, h1, h2, h3⟩ := renE_cons h
    cases d with
    | zero => simp [nthDel, h3]
    | succ d => simp [nthDel, renE, h1, h2, renE_del es l1 d h3]

theorem renE_push : ∀ (es : List (V × V × Nat)) (es' : List MapEntry) (k v : V) (k' v' : Value) (b : Nat), renE j es = some es' → ren j k = some k' → ren j v = some v' → renE j (es ++ [(k, v, b)]) = some (es' ++ [⟨k', v', b⟩])
  | [], es', k, v, k', v', b, h, hk, hv => by simp only [renE, Option.some.injEq] at h; subst h; simp [renE, hk, hv]
  | (k1, v1, b1) :: es, es', k, v, k', v', b, h, hk, hv => by
    obtain ⟨k2, v2, l1, rfl, h1, h2, h3⟩ := renE_cons h
    simp [renE, h1, h2, renE_push es l1 k v k' v' b h3 hk hv]

theorem putMap_step {r c c0 : Nat} {es es1 : List (V × V × Nat)} {es1' : Array MapEntry} {q : J} (R : HRel P base j h w) (hr : h.mem.get r = some (.mp es c0)) (hq : j r = some q) (h1 : renE j es1 = some es1'.toList) :
    Step P base j h w j (putB h r (.mp es1 c)) (wset w q.c (.map es1' c)) := by
  obtain ⟨a, b, es0, hm, he⟩ := R.blk r _ q hr hq
  refine write_step R hr hq rfl rfl ⟨a, b, es1', ?_, h1⟩
  rw [wset_get, if_pos ⟨rfl, (Array.getElem?_eq_some_iff.1 hm).1⟩]

theorem mapUpdate_sim {t : TypeId} {i kti : TI} {kt et : TypeId} (k : TIok P t i) (hki : i.k = .mp kt et) (kk : TIok P kt kti) {r c : Nat} {es : List (V × V × Nat)} {m key x v : V} {m' key' x' : Value} {h' : H}
    (R : HRel P base j h w) (hm : m = .m r) (hr : h.mem.get r = some (.mp es c))
    (hA : (match findKey kti key es 0 with
          | some (some (n, _)) => some (undefV, putB h r (.mp (nthSet es n key x) c))
          | some none => some (undefV, putB h r (.mp (es ++ [(key, x, c)]) (c + 1)))
          | none => none) = some (v, h')) (hmr : ren j m = some m') (hk : ren j key = some key') (hx : ren j x = some x') :
    ∃ w', (Instr.mapUpdate t m' key' x').run P w = .ok () w' ∧ Step P base j h w j h' w' ∧ v = undefV := by
  have hkk := k.k_eq
  have hd := k.hd
  rw [hki] at hkk
  rw [kOf_mp hkk.symm] at hd
  subst hm
  simp only [ren, Option.map_eq_some_iff] at hmr
  obtain ⟨q, hq, rfl⟩ := hmr
  obtain ⟨a, b, es', hmem, he⟩ := R.blk r _ q hr hq
  have hg : (getObj q.c).run P w = .ok (.map es' c) w := getObj_run hmem (by intros; simp)
  cases hf : findKey kti key es 0 with
  | none => rw [hf] at hA; cases hA
  | some fr =>
    rw [hf] at hA
    have hself := findKey_ok hf
    have hck := checkKey_run kk false hself hk w
    obtain ⟨fr', f1, f2⟩ := findKey_run (P := P) (w := w) kk hk he hf
    cases fr with
    | none =>
      simp only [Option.some.injEq, Prod.mk.injEq] at hA
      obtain ⟨rfl, rfl⟩ := hA
      cases fr' with
      | some p => exact f2.elim
      | none =>
        refine ⟨wset w q.c (.map (es'.push ⟨key', x', c⟩) (c + 1)), ?_, putMap_step R hr hq (by simpa using renE_push es _ key x key' x' c he hk hx), rfl⟩
        simp only [Instr.mapUpdate, Sem.run_bind, run_underlying hd, Result.andThen_ok, hg, hck, f1, run_setObj_not hmem (by intros; simp)]
    | some p =>
      obtain ⟨n, v0⟩ := p
      simp only [Option.some.injEq, Prod.mk.injEq] at hA
      obtain ⟨rfl, rfl⟩ := hA
      cases fr' with
      | none => exact f2.elim
      | some p' =>
        obtain ⟨n', v0'⟩ := p'
        obtain ⟨rfl, _⟩ := f2
        obtain ⟨d, k0, b0, e1, e2, e3⟩ := findKey_hit es 0 n hf
        rw [Nat.zero_add] at e1; subst e1
        obtain ⟨k0', v1', g1, g2, g3⟩ := renE_get es _ n k0 v0 b0 he e2
        have hbits := eqF_bits e3 hk g2
        have hkey : ((es'[n]?).map (·.key)).getD key' = k0' := by
          rw [← Array.getElem?_toList, g1]; rfl
        refine ⟨wset w q.c (.map (es'.modify n fun e => { e with key := key', val := x' }) c), ?_, putMap_step R hr hq (by simpa using renE_set es _ n key x key' x' he hk hx), rfl⟩
        simp only [Instr.mapUpdate, Sem.run_bind, run_underlying hd, Result.andThen_ok, hg, hck, f1, hkey, keyThatStays, hbits, if_true, Sem.run_pure, run_setObj_not hmem (by intros; simp)]

theorem deleteH_sim {t ty : TypeId} {ts : List TypeId} {m key v : V} {m' key' : Value} {h' : H} (R : HRel P base j h w) (hA : deleteH (mkX P) h t m key = some (v, h')) (hmr : ren j m = some m') (hk : ren j key = some key') :
    ∃ v' w', (Builtin.delete_ ⟨t :: ts⟩ ty #[m', key']).run P w = .ok v' w' ∧ Step P base j h w j h' w' ∧ ren j v = some v' := by
  unfold deleteH at hA
  replace hA := ti_ok' hA
  obtain ⟨i, k, hA⟩ := hA
  have hkk := k.k_eq
  have hd := k.hd
  cases hki : i.k <;> simp only [hki, reduceCtorEq] at hA <;> rw [hki] at hkk
  case mp kt et =>
  rw [kOf_mp hkk.symm] at hd
  replace hA := ti_ok' hA
  obtain ⟨kti, kk, hA⟩ := hA
  cases m <;> try (cases hA; done)
  case m r =>
  simp only [ren, Option.map_eq_some_iff] at hmr
  obtain ⟨q, hq, rfl⟩ := hmr
  cases hr : h.mem.get r with
  | none => simp [hr] at hA
  | some b0 =>
    cases b0 <;> simp only [hr, reduceCtorEq] at hA
    rename_i es c
    obtain ⟨a, b, es', hmem, he⟩ := R.blk r _ q hr hq
    have hg : (getObj q.c).run P w = .ok (.map es' c) w := getObj_run hmem (by intros; simp)
    cases hf : findKey kti key es 0 with
    | none => rw [hf] at hA; cases hA
    | some fr =>
      rw [hf] at hA
      have hself := findKey_ok hf
      have hck := fun em => checkKey_run kk em hself hk w
      obtain ⟨fr', f1, f2⟩ := findKey_run (P := P) (w := w) kk hk he hf
      cases fr with
      | none =>
        simp only [Option.some.injEq, Prod.mk.injEq] at hA
        obtain ⟨rfl, rfl⟩ := hA
        cases fr' with
        | some p => exact f2.elim
        | none =>
          refine ⟨.tuple #[], wset w q.c (.map es' c), ?_, ?_, rfl⟩
          · simp only [Builtin.delete_, List.getElem?_toArray, List.getElem?_cons_zero, List.getElem?_cons_succ, Sem.run_bind, run_underlying hd, Result.andThen_ok, hg, hck, f1, run_setObj_not hmem (by intros; simp), Sem.run_pure]
          · rw [wset_same hmem]; exact Step.refl R
      | some p =>
        obtain ⟨n, v0⟩ := p
        simp only [Option.some.injEq, Prod.mk.injEq] at hA
        obtain ⟨rfl, rfl⟩ := hA
        cases fr' with
        | none => exact f2.elim
        | some p' =>
          obtain ⟨n', v0'⟩ := p'
          obtain ⟨rfl, _⟩ := f2
          refine ⟨.tuple #[], wset w q.c (.map (es'.eraseIdxIfInBounds n) c), ?_, putMap_step R hr hq (by simpa using renE_del es _ n he), rfl⟩
          simp only [Builtin.delete_, List.getElem?_toArray, List.getElem?_cons_zero, List.getElem?_cons_succ, Sem.run_bind, run_underlying hd, Result.andThen_ok, hg, hck, f1, run_setObj_not hmem (by intros; simp), Sem.run_pure]

theorem opH_sim {e : Env} {o : Oper} {a : Act} {v : V} {h' : H} (hh : opH (mkX P) e h o = some (v, h')) (R : HRel P base j h w) (he : Seen j e a o) (F : Fresh j h.next h'.next) :
    ∃ j' nx v' w', (execOp a.eval o).run P w = .ok nx w' ∧ Got nx v' ∧ Step P base j h w j' h' w' ∧ ren j' v = some v' := by
  unfold Seen at he
  unfold opH at hh
  cases ho : o.op <;> simp only [ho] at hh he <;> try (cases hh; done)
  case store t u x =>
    replace hh := ti_ok' hh
    obtain ⟨i, k, hh⟩ := hh
    have hu := he u (by simp [Op.operands])
    have hx := he x (by simp [Op.operands])
    cases huv : ev e u <;> simp only [huv, reduceCtorEq] at hh
    case p r o' =>
    rw [huv] at hu
    obtain ⟨q, hq, hv⟩ := inv_p hu
    cases hb : Nat.beq (cellsOfV (ev e x)).length i.sz with
    | false => rw [hb] at hh; cases hh
    | true =>
      rw [hb] at hh; simp only [cond_true] at hh
      have hb := Nat.eq_of_beq_eq_true hb
      cases hst : storeB h r o' (cellsOfV (ev e x)) with
      | none => simp [hst] at hh
      | some h1 =>
        simp only [hst, Option.some.injEq, Prod.mk.injEq] at hh
        obtain ⟨rfl, rfl⟩ := hh
        have hc := cells_ren hx
        obtain ⟨w', w1, w2⟩ := store_run R hst hq hc
        have hl := rens_length hc
        refine ⟨j, .skip, undef, w', ?_, .inr ⟨rfl, rfl⟩, w2, rfl⟩
        have hsz : (a.eval x).cells.size = i.sz := by
          rw [← hb]; simpa using hl
        simp [execOp, ho, Instr.storeAt, hv, sureAddr, storeVar, k.sizeOf, hsz, w1]
  case call c =>
    obtain ⟨callee, args, argTypes⟩ := c
    simp only [builtinH] at hh
    cases callee with
    | value _ => simp at hh
    | invoke _ _ => simp at hh
    | builtin b =>
      simp only at hh
      obtain ⟨al⟩ := args
      obtain ⟨tl⟩ := argTypes
      cases b <;> simp only [reduceCtorEq] at hh
      case append =>
        split at hh
        · rename_i u x t t'
          have hu := he u (by simp [Op.operands, Call.operands])
          have hx := he x (by simp [Op.operands, Call.operands])
          obtain ⟨j', v', w', h1, h2, h3⟩ := appendH_sim (ty := o.type) R hh hu hx F
          exact ⟨j', .value v', v', w', by simp [execOp, ho, resolve, invoke, builtin, h1], .inl rfl, h2, h3⟩
        · cases hh
      case copy =>
        split at hh
        · rename_i u x t ts
          have hu := he u (by simp [Op.operands, Call.operands])
          have hx := he x (by simp [Op.operands, Call.operands])
          obtain ⟨v', w', h1, h2, h3⟩ := copyH_sim (ty := o.type) (ts := ts) R hh hu hx
          exact ⟨j, .value v', v', w', by simp [execOp, ho, resolve, invoke, builtin, h1], .inl rfl, h2, h3⟩
        · cases hh
      case clear =>
        split at hh
        · rename_i u t
          have hu := he u (by simp [Op.operands, Call.operands])
          obtain ⟨v', w', h1, h2, h3⟩ := clearH_sim (ty := o.type) R hh hu
          exact ⟨j, .value v', v', w', by simp [execOp, ho, resolve, invoke, builtin, h1], .inl rfl, h2, h3⟩
        · cases hh
      case delete =>
        split at hh
        · rename_i m x t ts
          have hm := he m (by simp [Op.operands, Call.operands])
          have hx := he x (by simp [Op.operands, Call.operands])
          obtain ⟨v', w', h1, h2, h3⟩ := deleteH_sim (ty := o.type) (ts := ts) R hh hm hx
          exact ⟨j, .value v', v', w', by simp [execOp, ho, resolve, invoke, builtin, h1], .inl rfl, h2, h3⟩
        · cases hh
  case next u b =>
    have hu := he u (by simp [Op.operands])
    obtain ⟨v', w', h1, h2, h3⟩ := nextH_sim (ty := o.type) R hh hu
    exact ⟨j, .value v', v', w', by simp [execOp, ho, h1], .inl rfl, h2, h3⟩
  case mapUpdate t m key x =>
    replace hh := ti_ok' hh
    obtain ⟨i, k, hh⟩ := hh
    cases hki : i.k <;> simp only [hki, reduceCtorEq] at hh
    case mp kt et =>
    replace hh := ti_ok' hh
    obtain ⟨kti, kk, hh⟩ := hh
    have hm := he m (by simp [Op.operands])
    have hk := he key (by simp [Op.operands])
    have hx := he x (by simp [Op.operands])
    cases hmv : ev e m <;> try (rw [hmv] at hh; cases hh; done)
    case m r =>
    rw [hmv] at hh
    simp only at hh
    cases hr : h.mem.get r with
    | none => simp [hr] at hh
    | some b0 =>
      cases b0 <;> simp only [hr, reduceCtorEq] at hh
      rename_i es c
      obtain ⟨w', h1, h2, rfl⟩ := mapUpdate_sim k hki kk R hmv hr hh hm hk hx
      exact ⟨j, .skip, undef, w', by simp [execOp, ho, h1], .inr ⟨rfl, rfl⟩, h2, rfl⟩

end
end Go.Am
