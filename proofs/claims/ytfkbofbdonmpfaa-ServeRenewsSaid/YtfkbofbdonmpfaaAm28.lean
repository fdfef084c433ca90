/- The abstract machine: calls. -/
import Derived.Test.YtfkbofbdonmpfaaAm27
import Derived.Below
set_option linter.unusedSimpArgs false
set_option linter.unusedVariables false
set_option linter.unusedSectionVars false
set_option linter.unnecessarySimpa false
namespace Go.Am
open Go.Instr Go.RowKit

section
variable {P : Program} {base : Nat}

theorem env0_get : ∀ (l : List V) (i : Nat) (e : Env) (t : Nat), gv (env0 l i e) t = if i ≤ t ∧ t < i + l.length then l.getD (t - i) undefV else gv e t
  | [], i, e, t => by simp only [env0, List.length_nil]; rw [if_neg (by omega)]
  | v :: l, i, e, t => by
    simp only [env0, T.seq_eq, List.length_cons]
    rw [env0_get l (i + 1), gv_put]
    by_cases h : i = t
    · subst h
      rw [if_neg (by omega), if_pos rfl, if_pos (by omega), Nat.sub_self]; rfl
    · rw [if_neg h]
      by_cases h2 : i + 1 ≤ t ∧ t < i + 1 + l.length
      · rw [if_pos h2, if_pos (by omega), show t - i = t - (i + 1) + 1 by omega]; rfl
      · rw [if_neg h2, if_neg (by omega)]

theorem env0_rel {j : Inj} {args : List V} {args' : List Value} (h : rens j args = some args') (n : Nat) : ERel j (env0 args 0 .l) ((⟨args'⟩ : Array Value) ++ Array.replicate n undef) := by
  intro t
  have hl := rens_length h
  rw [env0_get, Nat.zero_add, Nat.sub_zero, Array.getD_eq_getD_getElem?, Array.getElem?_append]
  by_cases ht : t < args.length
  · rw [if_pos ⟨Nat.zero_le _, ht⟩, if_pos (by simpa [hl] using ht)]
    obtain ⟨u, hu, ku⟩ := rens_get h (i := t) (v := args[t]) (List.getElem?_eq_getElem ht)
    rw [List.getD_eq_getElem?_getD, List.getElem?_eq_getElem ht]
    simp only [Option.getD_some]
    rw [ku]
    simp [hu]
  · rw [if_neg (by omega), if_neg (by simpa [hl] using ht), Array.getElem?_replicate]
    have : gv (.l : Env) t = undefV := rfl
    rw [this, undef_ren]
    split <;> rfl

def oneResult (tmps : Array Value) : ResultVar → Sem Value
  | .tmp t => pure (tmps.getD t undef)
  | .cell a t => do loadVar t (← asAddr (tmps.getD a undef))

theorem res1_sim {j : Inj} {e : Env} {h : H} {w : World} {a : Act} {r : ResultVar} {v : V} (hr : res1 (mkX P) e h r = some v) (R : HRel P base j h w) (he : ERel j e a.tmps) :
    ∃ v', ren j v = some v' ∧ (oneResult a.tmps r).run P w = .ok v' w := by
  cases r with
  | tmp t =>
    simp only [res1, Option.some.injEq] at hr
    subst hr
    exact ⟨_, he t, by simp [oneResult]⟩
  | cell t ty =>
    simp only [res1] at hr
    obtain ⟨i, k, hk⟩ := ti_ok' hr
    have hg := he t
    split at hk
    · rename_i r o hv
      rw [hv] at hg
      obtain ⟨q, hq, hp⟩ := inv_p hg
      obtain ⟨v', h1, h2⟩ := load_run (base := base) k R.blk hk hq
      refine ⟨v', h1, ?_⟩
      simp only [oneResult, Sem.run_bind]
      rw [hp]
      simpa [asAddr] using h2
    · cases hk

theorem resL_sim {j : Inj} {e : Env} {h : H} {w : World} {a : Act} (R : HRel P base j h w) (he : ERel j e a.tmps) : ∀ (l : List ResultVar) {vs : List V}, resL (mkX P) e h l = some vs →
    ∃ vs', rens j vs = some vs' ∧ (l.mapM (oneResult a.tmps)).run P w = .ok vs' w
  | [], vs, h => by
    simp only [resL, Option.some.injEq] at h
    subst h
    exact ⟨[], rfl, by simp⟩
  | r :: l, vs, hh => by
    simp only [resL] at hh
    split at hh
    · rename_i v vs1 h1 h2
      simp only [Option.some.injEq] at hh
      subst hh
      obtain ⟨v', a1, a2⟩ := res1_sim h1 R he
      obtain ⟨vs', b1, b2⟩ := resL_sim R he l h2
      exact ⟨v' :: vs', rens_mk a1 b1, by simp [List.mapM_cons, a2, b2]⟩
    · cases hh

theorem resV_sim {j : Inj} {vs : List V} {vs' : List Value} (h : rens j vs = some vs') : ren j (resV vs) = some (if h : (⟨vs'⟩ : Array Value).size = 1 then (⟨vs'⟩ : Array Value)[0] else .tuple ⟨vs'⟩) := by
  match vs, vs', h with
  | [], vs', h => simp [rens] at h; subst h; rfl
  | [v], vs', h =>
    obtain ⟨v', l1, rfl, h1, h2⟩ := rens_cons h
    simp [rens] at h2; subst h2
    simpa [resV] using h1
  | v1 :: v2 :: vs, vs', h =>
    have hl := rens_length h
    have h2 : ¬ (⟨vs'⟩ : Array Value).size = 1 := by simp at hl; simp [hl]
    rw [dif_neg h2]
    simp only [resV, ren, h, Option.map_some]

theorem results_sim {j : Inj} {e : Env} {h : H} {w : World} {a : Act} {fn : Func} {vs : List V} (R : HRel P base j h w) (he : ERel j e a.tmps) (hv : resL (mkX P) e h fn.results.toList = some vs) :
    ∃ v', ren j (resV vs) = some v' ∧ (results fn a.tmps).run P w = .ok v' w := by
  obtain ⟨vs', h1, h2⟩ := resL_sim R he fn.results.toList hv
  refine ⟨_, resV_sim h1, ?_⟩
  have hm : (fn.results.mapM (oneResult a.tmps)).run P w = .ok ⟨vs'⟩ w := by
    rw [Array.mapM_eq_mapM_toList, Sem.run_map, h2]; rfl
  have h3 : (results fn a.tmps).run P w = (((fn.results.mapM (oneResult a.tmps)).run P w).andThen fun vs w' => (pure (if h : vs.size = 1 then vs[0] else .tuple vs) : Sem Value).run P w') := by
    unfold results
    rw [Sem.run_bind]
    rfl
  rw [h3, hm]
  rfl

theorem sem_sim (k : Nat) : ∀ n, CallSim P base (sem (mkX P) k n)
  | 0, f, args, h, v, h', hh => by cases hh
  | n + 1, f, args, h, v, h', hh => by
    simp only [sem] at hh
    split at hh
    · cases hh
    · rename_i fn hf
      cases hok : fnOk (mkX P) fn with
      | false => rw [hok] at hh; cases hh
      | true =>
        rw [hok] at hh
        simp only [cond_true] at hh
        unfold fnOk at hok
        rw [Bool.and_eq_true] at hok
        split at hh
        · cases hh
        · rename_i c hc
          rw [hc] at hok
          simp only at hok
          refine ⟨⟨fn, c, mkX_ft hf, by simpa using hok.1, hc⟩, fun j w args' R ha F => ?_⟩
          refine calls_of_wp (mkX_ft hf) hc ?_
          have done : ∀ {x : Ex} {e : Env} {h1 : H} {vs : List V}, code (mkX P) (sem (mkX P) k n) k c (env0 args 0 .l) h = some (x, e, h1) → (x = .n ∨ x = .r) → resL (mkX P) e h1 fn.results.toList = some vs → v = resV vs → h' = h1 →
              c.wp P (bodyPost P fn fun e w' => ∃ v' j', e = .returned v' ∧ Step P base j h w j' h' w' ∧ ren j' v = some v') { tmps := (⟨args'⟩ : Array Value) ++ Array.replicate (fn.ntmps - (⟨args'⟩ : Array Value).size) undef, defers := [] } w := by
            intro x e h1 vs hcode hx hres hv hh1
            subst hv; subst hh1
            refine code_sim (sem_sim k n) (gd_sem k n) k fn.ntmps c hok.2 hcode R (env0_rel ha _) (by simp; omega) F fun j' a' w' s er es ed => ?_
            obtain ⟨v', r1, r2⟩ := results_sim s.rel er hres
            rcases hx with rfl | rfl
            · exact ⟨ed, v', r2, v', j', rfl, s, r1⟩
            · exact ⟨ed, v', r2, v', j', rfl, s, r1⟩
          split at hh
          · rename_i e h1 hcode
            split at hh
            · rename_i vs hres
              simp only [Option.some.injEq, Prod.mk.injEq] at hh
              exact done hcode (.inl rfl) hres hh.1.symm hh.2.symm
            · cases hh
          · rename_i e h1 hcode
            split at hh
            · rename_i vs hres
              simp only [Option.some.injEq, Prod.mk.injEq] at hh
              exact done hcode (.inr rfl) hres hh.1.symm hh.2.symm
            · cases hh
          · cases hh

end

/-- THE MACHINE ANSWERS FOR THE PROGRAM. -/
theorem sem_calls {P : Program} {k n : Nat} {f : FuncId} {args : List V} {h h' : H} {v : V} (hh : sem (mkX P) k n f args h = some (v, h')) {j : Inj} {w : World} {args' : List Value} (R : HRel P w.heap.size j h w) (ha : rens j args = some args')
    (F : Fresh j h.next h'.next) : Calls P f ⟨args'⟩ w fun e w' => ∃ v' j', e = .returned v' ∧ Step P w.heap.size j h w j' h' w' ∧ ren j' v = some v' :=
  (sem_sim k n f args h v h' hh).2 j w args' R ha F

theorem HRel.none (P : Program) (w : World) (n : Nat) : HRel P w.heap.size (fun _ => none) ⟨n, .l⟩ w :=
  ⟨fun r b q h => by simp [T.get] at h, fun r r' b b' q q' h => by simp [T.get] at h, fun r b h => by simp [T.get] at h, Nat.le_refl _⟩

/-- A call that needs no memory of the caller's. -/
theorem calls_true {P : Program} {k n m : Nat} {f : FuncId} {args : List V} {h' : H} (hh : sem (mkX P) k n f args ⟨m, .l⟩ = some (.b true, h')) (w : World) {args' : List Value} (ha : rens (fun _ => none) args = some args') :
    Calls P f ⟨args'⟩ w fun e w' => e = .returned (.bool true) ∧ Below w.heap.size w w' := by
  refine Calls.mono (sem_calls hh (HRel.none P w m) ha (fun _ _ _ => rfl)) ?_
  rintro e w' ⟨v', j', rfl, s, hv⟩
  rw [inv_b hv]
  exact ⟨rfl, s.below (HRel.none P w m)⟩

end Go.Am
