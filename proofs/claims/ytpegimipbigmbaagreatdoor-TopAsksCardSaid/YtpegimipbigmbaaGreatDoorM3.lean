/- The abstract machine: calls. -/
import Derived.Test.YtpegimipbigmbaaGreatDoorM2
import Derived.Below
import Derived.Laws.Externs
import Derived.Lib.IndexEntry
import Derived.ChangeSame
import Derived.ChangeStays
import Derived.KernelRfl
import Derived.OpenShut
import Derived.ProofKit
set_option linter.unusedSimpArgs false
set_option linter.unusedVariables false
set_option linter.unusedSectionVars false
set_option linter.unnecessarySimpa false
namespace Go.Am
open Go.Instr Go.RowKit
section
variable {P : Program} {base : Nat}
theorem env0_get : ∀ (l : List V) (i : Nat) (e : Env) (t : Nat), gv (env0 l i e) t = if i ≤ t ∧ t < i + l.length then l.getD (t - i) undefV else gv e t
 | [], i, e, t => by simp only [env0, List.length_nil]; rw [if_neg (by omega)]
 | v :: l, i, e, t => by
  simp only [env0, T.seq_eq, List.length_cons]
  rw [env0_get l (i + 1), gv_put]
  by_cases h : i = t
  ·subst h
   rw [if_neg (by omega), if_pos rfl, if_pos (by omega), Nat.sub_self]; rfl
  ·rw [if_neg h]
   by_cases h2 : i + 1 ≤ t ∧ t < i + 1 + l.length
   ·rw [if_pos h2, if_pos (by omega), show t - i = t - (i + 1) + 1 by omega]; rfl
   ·rw [if_neg h2, if_neg (by omega)]
theorem env0_rel {j : Inj} {args : List V} {args' : List Value} (h : rens j args = some args') (n : Nat) : ERel j (env0 args 0 .l) ((⟨args'⟩ : Array Value) ++ Array.replicate n undef) := by
 intro t
 have hl := rens_length h
 rw [env0_get, Nat.zero_add, Nat.sub_zero, Array.getD_eq_getD_getElem?, Array.getElem?_append]
 by_cases ht : t < args.length
 ·rw [if_pos ⟨Nat.zero_le _, ht⟩, if_pos (by simpa [hl] using ht)]
  obtain ⟨u, hu, ku⟩ := rens_get h (i := t) (v := args[t]) (List.getElem?_eq_getElem ht)
  rw [List.getD_eq_getElem?_getD, List.getElem?_eq_getElem ht]
  simp only [Option.getD_some]
  rw [ku]
  simp [hu]
 ·rw [if_neg (by omega), if_neg (by simpa [hl] using ht), Array.getElem?_replicate]
  have : gv (.l : Env) t = undefV := rfl
  rw [this, undef_ren]
  split <;> rfl
def oneResult (tmps : Array Value) : ResultVar → Sem Value
 | .tmp t => pure (tmps.getD t undef)
 | .cell a t => do loadVar t (← asAddr (tmps.getD a undef))
theorem res1_sim {j : Inj} {e : Env} {h : H} {w : World} {a : Act} {r : ResultVar} {v : V} (hr : res1 (mkX P) e h r = some v) (R : HRel P base j h w) (he : ERel j e a.tmps) :
  ∃ v', ren j v = some v' ∧ (oneResult a.tmps r).run P w = .ok v' w := by
 cases r with
 | tmp t =>
  simp only [res1, Option.some.injEq] at hr
  subst hr
  exact ⟨_, he t, by simp [oneResult]⟩
 | cell t ty =>
  simp only [res1] at hr
  obtain ⟨i, k, hk⟩ := ti_ok' hr
  have hg := he t
  split at hk
  ·rename_i r o hv
   rw [hv] at hg
   obtain ⟨q, hq, hp⟩ := inv_p hg
   obtain ⟨v', h1, h2⟩ := load_run (base := base) k R.blk hk hq
   refine ⟨v', h1, ?_⟩
   simp only [oneResult, Sem.run_bind]
   rw [hp]
   simpa [asAddr] using h2
  ·cases hk
theorem resL_sim {j : Inj} {e : Env} {h : H} {w : World} {a : Act} (R : HRel P base j h w) (he : ERel j e a.tmps) : ∀ (l : List ResultVar) {vs : List V}, resL (mkX P) e h l = some vs →
  ∃ vs', rens j vs = some vs' ∧ (l.mapM (oneResult a.tmps)).run P w = .ok vs' w
 | [], vs, h => by
  simp only [resL, Option.some.injEq] at h
  subst h
  exact ⟨[], rfl, by simp⟩
 | r :: l, vs, hh => by
  simp only [resL] at hh
  split at hh
  ·rename_i v vs1 h1 h2
   simp only [Option.some.injEq] at hh
   subst hh
   obtain ⟨v', a1, a2⟩ := res1_sim h1 R he
   obtain ⟨vs', b1, b2⟩ := resL_sim R he l h2
   exact ⟨v' :: vs', rens_mk a1 b1, by simp [List.mapM_cons, a2, b2]⟩
  ·cases hh
theorem resV_sim {j : Inj} {vs : List V} {vs' : List Value} (h : rens j vs = some vs') : ren j (resV vs) = some (if h : (⟨vs'⟩ : Array Value).size = 1 then (⟨vs'⟩ : Array Value)[0] else .tuple ⟨vs'⟩) := by
 match vs, vs', h with
 | [], vs', h => simp [rens] at h; subst h; rfl
 | [v], vs', h =>
  obtain ⟨v', l1, rfl, h1, h2⟩ := rens_cons h
  simp [rens] at h2; subst h2
  simpa [resV] using h1
 | v1 :: v2 :: vs, vs', h =>
  have hl := rens_length h
  have h2 : ¬ (⟨vs'⟩ : Array Value).size = 1 := by simp at hl; simp [hl]
  rw [dif_neg h2]
  simp only [resV, ren, h, Option.map_some]
theorem results_sim {j : Inj} {e : Env} {h : H} {w : World} {a : Act} {fn : Func} {vs : List V} (R : HRel P base j h w) (he : ERel j e a.tmps) (hv : resL (mkX P) e h fn.results.toList = some vs) :
  ∃ v', ren j (resV vs) = some v' ∧ (results fn a.tmps).run P w = .ok v' w := by
 obtain ⟨vs', h1, h2⟩ := resL_sim R he fn.results.toList hv
 refine ⟨_, resV_sim h1, ?_⟩
 have hm : (fn.results.mapM (oneResult a.tmps)).run P w = .ok ⟨vs'⟩ w := by
  rw [Array.mapM_eq_mapM_toList, Sem.run_map, h2]; rfl
 have h3 : (results fn a.tmps).run P w = (((fn.results.mapM (oneResult a.tmps)).run P w).andThen fun vs w' => (pure (if h : vs.size = 1 then vs[0] else .tuple vs) : Sem Value).run P w') := by
  unfold results
  rw [Sem.run_bind]
  rfl
 rw [h3, hm]
 rfl
theorem sem_left {k n : Nat} (C : CallSim P base (sem (mkX P) k n)) {f : FuncId} {fn : Func} {args : List V} {h h' : H} {v : V} (hf : (mkX P).ft.get f = some fn) (hok : fnOk (mkX P) fn = true)
  (hh : (match fn.body with
   | none => none
   | some c => match code (mkX P) (sem (mkX P) k n) k c (env0 args 0 .l) h with
    | some (.n, e, h') | some (.r, e, h') => match resL (mkX P) e h' fn.results.toList with
     | some vs => some (resV vs, h')
     | none => none
    | _ => none) = some (v, h')) :
  (∃ fn c, P.funcs[f]? = some fn ∧ (fn.name == "runtime.NumGoroutine") = false ∧ fn.body = some c) ∧
  ∀ (j : Inj) (w : World) (args' : List Value), HRel P base j h w → rens j args = some args' → Fresh j h.next h'.next →
   Calls P f ⟨args'⟩ w fun e w' => ∃ v' j', e = .returned v' ∧ Step P base j h w j' h' w' ∧ ren j' v = some v' := by
 unfold fnOk at hok
 rw [Bool.and_eq_true] at hok
 split at hh
 ·cases hh
 ·rename_i c hc
  rw [hc] at hok
  simp only at hok
  refine ⟨⟨fn, c, mkX_ft hf, by simpa using hok.1, hc⟩, fun j w args' R ha F => ?_⟩
  refine calls_of_wp (mkX_ft hf) hc ?_
  have done : ∀ {x : Ex} {e : Env} {h1 : H} {vs : List V}, code (mkX P) (sem (mkX P) k n) k c (env0 args 0 .l) h = some (x, e, h1) → (x = .n ∨ x = .r) → resL (mkX P) e h1 fn.results.toList = some vs → v = resV vs → h' = h1 →
    c.wp P (bodyPost P fn fun e w' => ∃ v' j', e = .returned v' ∧ Step P base j h w j' h' w' ∧ ren j' v = some v') { tmps := (⟨args'⟩ : Array Value) ++ Array.replicate (fn.ntmps - (⟨args'⟩ : Array Value).size) undef, defers := [] } w := by
   intro x e h1 vs hcode hx hres hv hh1
   subst hv; subst hh1
   refine code_sim C (gd_sem k n) k fn.ntmps c hok.2 hcode R (env0_rel ha _) (by simp; omega) F fun j' a' w' s er es ed => ?_
   obtain ⟨v', r1, r2⟩ := results_sim s.rel er hres
   rcases hx with rfl | rfl
   ·exact ⟨ed, v', r2, v', j', rfl, s, r1⟩
   ·exact ⟨ed, v', r2, v', j', rfl, s, r1⟩
  split at hh
  ·rename_i e h1 hcode
   split at hh
   ·rename_i vs hres
    simp only [Option.some.injEq, Prod.mk.injEq] at hh
    exact done hcode (.inl rfl) hres hh.1.symm hh.2.symm
   ·cases hh
  ·rename_i e h1 hcode
   split at hh
   ·rename_i vs hres
    simp only [Option.some.injEq, Prod.mk.injEq] at hh
    exact done hcode (.inr rfl) hres hh.1.symm hh.2.symm
   ·cases hh
  ·cases hh
theorem ext_sim {fn : Func} {f : FuncId} {args : List V} {h h' : H} {v : V} (hf : P.funcs[f]? = some fn) (hh : extS (mkX P).ml fn args h = some (v, h')) :
  h' = h ∧ (∀ b, v ≠ .b b) ∧ ∃ fn e, P.funcs[f]? = some fn ∧ (fn.name == "runtime.NumGoroutine") = false ∧ fn.body.isNone = true ∧ Extern.findNext fn = none ∧ Extern.find fn = some e ∧
  ∀ (j : Inj) (w : World) (args' : List Value), HRel P base j h w → rens j args = some args' → ∃ v', (e ⟨args'⟩).run P w = .ok v' w ∧ ren j v = some v' := by
 refine ⟨extS_heap hh, ?_⟩
 unfold extS at hh
 split at hh
 ·cases hh
 ·rename_i hb
  cases hc : (!(fn.name == "runtime.NumGoroutine") && (Extern.findNext fn).isNone) with
  | false => rw [hc] at hh; cases hh
  | true =>
   rw [hc] at hh
   simp only [cond_true] at hh
   rw [Bool.and_eq_true] at hc
   have hn : (fn.name == "runtime.NumGoroutine") = false := by simpa using hc.1
   have hx : Extern.findNext fn = none := by simpa using hc.2
   split at hh
   ·rename_i v1 hv
    simp only [Option.some.injEq, Prod.mk.injEq] at hh
    obtain ⟨rfl, rfl⟩ := hh
    unfold extV at hv
    cases h1 : (fn.name == "internal/bytealg.IndexByteString") with
    | true =>
     rw [h1] at hv
     have hname : fn.name = "internal/bytealg.IndexByteString" := by simpa using h1
     simp only [cond_true] at hv
     split at hv
     ·rename_i l c
      simp only [Option.some.injEq] at hv
      subst hv
      refine ⟨(fun b e => by cases e), fn, Extern.BytealgIndexByte.indexByte, hf, hn, by rw [hb]; rfl, hx, by unfold Extern.find; rw [hname]; rfl, fun j w args' R ha => ?_⟩
      simp only [rens, ren, Option.map_some, Option.some.injEq] at ha
      subst ha
      exact ⟨_, Lib.run_indexByteString ⟨⟨l⟩⟩ c w, by simp [ren]⟩
     ·cases hv
    | false =>
     rw [h1] at hv
     simp only [cond_false] at hv
     cases h2 : (fn.name == "internal/bytealg.CountString") with
     | true =>
      rw [h2] at hv
      have hname : fn.name = "internal/bytealg.CountString" := by simpa using h2
      simp only [cond_true] at hv
      split at hv
      ·rename_i l c
       simp only [Option.some.injEq] at hv
       subst hv
       refine ⟨(fun b e => by cases e), fn, Extern.BytealgCount.count, hf, hn, by rw [hb]; rfl, hx, by unfold Extern.find; rw [hname]; rfl, fun j w args' R ha => ?_⟩
       simp only [rens, ren, Option.map_some, Option.some.injEq] at ha
       subst ha
       exact ⟨_, Lib.run_countString ⟨⟨l⟩⟩ c w, by simp [ren]⟩
      ·cases hv
     | false =>
      rw [h2] at hv
      simp only [cond_false] at hv
      cases h3 : (fn.name == "internal/abi.NoEscape") with
      | true =>
       rw [h3] at hv
       have hname : fn.name = "internal/abi.NoEscape" := by simpa using h3
       simp only [cond_true] at hv
       split at hv
       ·rename_i r o
        simp only [Option.some.injEq] at hv
        subst hv
        refine ⟨(fun b e => by cases e), fn, Extern.AbiNoEscape.same, hf, hn, by rw [hb]; rfl, hx, by unfold Extern.find; rw [hname]; rfl, fun j w args' R ha => ?_⟩
        obtain ⟨v', l1, rfl, ha1, ha2⟩ := rens_cons ha
        simp only [rens, Option.some.injEq] at ha2
        subst ha2
        exact ⟨v', rfl, ha1⟩
       ·cases hv
      | false => rw [h3] at hv; cases hv
   ·split at hh
    ·rename_i v1 hv
     simp only [Option.some.injEq, Prod.mk.injEq] at hh
     obtain ⟨rfl, rfl⟩ := hh
     unfold extM at hv
     cases h1 : (fn.name == "internal/bytealg.IndexString") with
     | false => rw [h1] at hv; cases hv
     | true =>
      rw [h1] at hv
      have hname : fn.name = "internal/bytealg.IndexString" := by simpa using h1
      simp only [cond_true] at hv
      split at hv
      ·rename_i l1 l2 r hml _
       split at hv
       ·rename_i m cs ty own hg
        cases hb2 : (Nat.blt r 16 && Nat.ble 2 l2.length && Nat.blt l1.length 4294967281 && decide ((l2.length : Int) ≤ m)) with
        | false => rw [hb2] at hv; cases hv
        | true =>
         rw [hb2] at hv
         simp only [cond_true, Option.some.injEq] at hv
         subst hv
         simp only [Bool.and_eq_true, decide_eq_true_eq, Nat.blt_eq] at hb2
         obtain ⟨⟨⟨hr, b1⟩, b2⟩, b3⟩ := hb2
         have b1 := Nat.le_of_ble_eq_true b1
         refine ⟨(fun b e => by cases e), fn, Extern.BytealgIndex.index, hf, hn, by rw [hb]; rfl, hx, by unfold Extern.find; rw [hname]; rfl, fun j w args' R ha => ?_⟩
         simp only [rens, ren, Option.some.injEq] at ha
         subst ha
         have hq := R.glob r hr
         have hB := (R.blk r _ _ hg hq)
         obtain ⟨u', c1, c2⟩ := hB.1 0 (.i .i64 m) rfl
         have c1 : w.cell? ⟨r, 0, none⟩ = some u' := c1
         rw [inv_i c2] at c1
         exact ⟨_, Lib.run_indexString ⟨⟨l1⟩⟩ ⟨⟨l2⟩⟩ w r m hml c1 b1 b3 b2, rfl⟩
       ·cases hv
      ·cases hv
    ·cases hh
theorem sem_sim (k : Nat) : ∀ n, CallSim P base (sem (mkX P) k n)
 | 0, f, args, h, v, h', hh => by cases hh
 | n + 1, f, args, h, v, h', hh => by
  simp only [sem] at hh
  split at hh
  ·cases hh
  ·rename_i fn hf
   cases hok : fnOk (mkX P) fn with
   | false =>
    rw [hok] at hh
    simp only [cond_false] at hh
    obtain ⟨e1, _, e2⟩ := ext_sim (mkX_ft hf) hh
    exact .inr ⟨e1, e2⟩
   | true =>
    rw [hok] at hh
    simp only [cond_true] at hh
    exact .inl (sem_left (sem_sim k n) hf hok hh)
theorem sem_body {k n : Nat} {f : FuncId} {args : List V} {h h' : H} {v : V} (hv : ∃ b, v = .b b) (hh : sem (mkX P) k n f args h = some (v, h')) :
  ∀ (j : Inj) (w : World) (args' : List Value), HRel P base j h w → rens j args = some args' → Fresh j h.next h'.next →
   Calls P f ⟨args'⟩ w fun e w' => ∃ v' j', e = .returned v' ∧ Step P base j h w j' h' w' ∧ ren j' v = some v' := by
 cases n with
 | zero => cases hh
 | succ n =>
  simp only [sem] at hh
  split at hh
  ·cases hh
  ·rename_i fn hf
   cases hok : fnOk (mkX P) fn with
   | false =>
    rw [hok] at hh
    simp only [cond_false] at hh
    obtain ⟨_, e1, _⟩ := ext_sim (base := 0) (mkX_ft hf) hh
    obtain ⟨b, rfl⟩ := hv
    exact absurd rfl (e1 b)
   | true =>
    rw [hok] at hh
    simp only [cond_true] at hh
    exact (sem_left (sem_sim k n) hf hok hh).2
end
theorem sem_calls {P : Program} {k n : Nat} {f : FuncId} {args : List V} {h h' : H} {v : V} (hv : ∃ b, v = .b b) (hh : sem (mkX P) k n f args h = some (v, h')) {j : Inj} {w : World} {args' : List Value} (R : HRel P w.heap.size j h w) (ha : rens j args = some args')
  (F : Fresh j h.next h'.next) : Calls P f ⟨args'⟩ w fun e w' => ∃ v' j', e = .returned v' ∧ Step P w.heap.size j h w j' h' w' ∧ ren j' v = some v' :=
 sem_body hv hh j w args' R ha F
def j0 : Inj := fun r => if r < 16 then some ⟨r, 0, 0, none⟩ else none
theorem HRel.start (P : Program) (w : World) (n : Nat) (m : T B) (hn : 16 ≤ n) (hm : ∀ r b, m.get r = some b → r < 16 ∧ r < w.heap.size ∧ ∃ l ty, b = .c l ty false ∧ CellsRel j0 ⟨r, 0, 0, none⟩ l w) : HRel P w.heap.size j0 ⟨n, m⟩ w where
 blk r b q h hq := by
  obtain ⟨h1, h2, l, ty, rfl, hc⟩ := hm r b h
  have : q = ⟨r, 0, 0, .none⟩ := by unfold j0 at hq; rw [if_pos h1] at hq; cases hq; rfl
  subst this
  exact ⟨hc, by rw [if_neg (by simp)]; exact h2⟩
 inj r r' b b' q q' h h' h3 h4 ho h6 h7 := by
  obtain ⟨_, _, l, ty, rfl, _⟩ := hm r b h
  cases ho
 next r b h := Nat.lt_of_lt_of_le (hm r b h).1 hn
 base := Nat.le_refl _
 glob g hg := by unfold j0; rw [if_pos hg]
theorem HRel.none (P : Program) (w : World) (n : Nat) (hn : 16 ≤ n) : HRel P w.heap.size j0 ⟨n, .l⟩ w :=
 HRel.start P w n .l hn fun r b h => by simp [T.get] at h
end Go.Am
namespace Go.Am
open Go.ChangeShapes Go.WideShapes Go.ChangeAt Go.RowKit
theorem and2 {a b : Bool} (h : a = true) (k : b = true) : (a && b) = true := by rw [h, k]; rfl
def slicesOk (P : Program) : Bool := (List.range P.types.size).all fun t => match P.underlying t with
 | some (.slice e) => Nat.blt 0 (P.cellsOf e)
 | _ => true
theorem slices_ok {P : Program} (h : slicesOk P = true) : ∀ {t e : TypeId}, t < P.types.size → P.underlying t = some (.slice e) → 0 < P.cellsOf e := by
 intro t e ht hd
 have := List.all_eq_true.1 h t (List.mem_range.2 ht)
 rw [hd] at this
 exact Nat.le_of_ble_eq_true this
section
variable {H : Type} {enc : TypeId × Value → H} {P : Program} {T : TypeId → Prop} {W W' : World}
theorem trodAll_again (K : Kids P T) (hsz : ∀ {t e : TypeId}, T t → P.underlying t = some (.slice e) → 0 < P.cellsOf e) (hB : Below W.heap.size W W') {sp : Nat → Bool} :
  ∀ {ts : List TypeId} {vs : List Value} {ds : List (DataW H)} {ps : List MemPlace}, (∀ t ∈ ts, T t) → DataW.TrodAll enc P W 0 (fun _ => true) true ts vs ds ps → (∀ p ∈ ps, p.block < W.heap.size) → (∀ p ∈ ps, sp p.block = true) → DataW.TrodAll enc P W' 0 sp true ts vs ds ps
 | [], vs, ds, ps, _, h, _, _ => by
  obtain ⟨rfl, rfl, rfl⟩ := trodAll_nil h
  exact trodAll_mk0
 | t :: ts, vs, ds, ps, hT, h, hl, hs => by
  obtain ⟨v, vs1, d, ds1, a, b, rfl, rfl, rfl, h1, h2⟩ := trodAll_cons h
  obtain ⟨n, hn⟩ := h1
  refine trodAll_cons_mk ⟨n, ?_⟩ (trodAll_again K hsz hB (fun t ht => hT t (by simp [ht])) h2 (fun p hp => hl p (by simp [hp])) (fun p hp => hs p (by simp [hp])))
  exact DataW.trod_stays K hsz (fun h => by cases h) (hT t (by simp)) hn (fun p hp => hB.same (hl p (by simp at hp; simp [hp]))) (fun p hp => hs p (by simp at hp; simp [hp]))
theorem post_of_below (K : Kids P T) (hsz : ∀ {t e : TypeId}, T t → P.underlying t = some (.slice e) → 0 < P.cellsOf e) {f : Func} {s : ChangeSpec} {apart fresh : Bool} {args : Array Value} {ds gs : List (DataW H)} {before : List MemPlace} {tb : TypeId}
  (hT : ∀ t ∈ f.params.toList, T t) (hW : DataW.Whole enc P f.params.toList s.vars apart W args.toList ds gs before) (hv : s.vars = []) (hs : s.fn H ds = { results := [.lit (.bool true)], args := ds })
  (ht : f.resultTypes = #[tb]) (hb : P.underlying tb = some .bool) (hB : Below W.heap.size W W') : s.post enc P f apart fresh false false W args (.bool true) W' := by
 have hlt : ∀ p ∈ before, p.block < W.heap.size := fun p hp => by simpa using hW.lt p hp
 have hW0 := hW
 obtain ⟨pa, pv, hA, hV, hps, hz, hn⟩ := hW
 rw [hv] at hV
 obtain ⟨rfl, rfl⟩ := trodVars_none hV
 rw [List.append_nil] at hps
 subst hps
 have hs' : s.fn H (ds ++ []) = { results := [.lit (.bool true)], args := ds } := by rw [List.append_nil]; exact hs
 have hres : ∀ (b : Nat) (sp : Nat → Bool) (hd : Bool), DataW.TrodAll enc P W' b sp hd f.resultTypes.toList ((Value.bool true).resultList f.resultTypes.size) (s.fn H (ds ++ [])).results [] := by
  intro b sp hd
  rw [hs', ht]
  exact trodAll_cons_mk (shut_bool hb true) trodAll_mk0
 have hok : ∀ (j : Nat) (t : TypeId) (r : Value), f.resultTypes[j]? = some t → ((Value.bool true).resultList f.resultTypes.size)[j]? = some r → Value.okWide P W' .any 0 t r :=
  ok_one ht rfl (okWide_bool_mk hb true)
 have hargs : ∀ sp : Nat → Bool, (∀ p ∈ before, sp p.block = true) → DataW.TrodAll enc P W' 0 sp true f.params.toList args.toList (s.fn H (ds ++ [])).args before := by
  intro sp hsp
  rw [hs']
  exact trodAll_again K hsz hB hT hA hlt hsp
 have hvars : ∀ sp : Nat → Bool, DataW.TrodVars enc P W' sp s.vars (s.fn H (ds ++ [])).vars [] := by
  intro sp
  rw [hs', hv]
  rfl
 have hold : ∀ p ∈ before, (fun b => decide (b < W.heap.size)) p.block = true := fun p hp => by simpa using hlt p hp
 refine ⟨ds, [], before, [], before, [], hW0, hres _ _ _, hargs _ hold, hvars _, World.keptBut_mono (fun p hp => ⟨hp, ?_⟩) (hB.frame (· ∈ before)), fun _ => ?_⟩
 ·exact Or.inr (by simpa using hp)
 ·refine ⟨hok, _, _, ([] ++ before) ++ [], ⟨[] ++ before, [], trodAll_append (hargs _ (fun _ _ => rfl)) (hres _ _ _), hvars _, rfl, ?_, ?_⟩, ?_⟩
  ·intro b off hp
   have hp' : MemPlace.cell b off ∈ before := by simpa using hp
   rw [hB.frozen (p := ⟨b, off, none⟩) (hlt _ hp')]
   exact hz b off (by simpa using hp')
  ·intro ha
   have := hn ha
   simpa using this
  ·intro p hp _
   simpa using hp
end
end Go.Am
