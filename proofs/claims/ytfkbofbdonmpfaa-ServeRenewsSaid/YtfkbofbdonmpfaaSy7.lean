/- The machine with names for integers: operations that look at memory, make blocks, write. -/
import Derived.Test.YtfkbofbdonmpfaaSy6
set_option linter.unusedSimpArgs false
set_option linter.unusedVariables false
set_option linter.unusedSectionVars false
set_option linter.unnecessarySimpa false
namespace Go.Am

section
variable {ρ : Nat → Int} {s s' : Sy} {x : X}

theorem findKey_val {i : TI} {k : V} (hk : clean k = true) : ∀ (es : List (V × V × Nat)) (n : Nat), keysClean es = true → findKey i (val ρ k) (valM ρ es) n = (findKey i k es n).map (Option.map fun p => (p.1, val ρ p.2))
  | [], n, _ => by
    simp only [valM, findKey, val_clean ρ _ hk]
    split <;> rfl
  | (k', v, c) :: es, n, h => by
    simp only [keysClean, Bool.and_eq_true] at h
    have ih := findKey_val (i := i) hk es (n + 1) h.2
    rw [val_clean ρ _ hk] at ih ⊢
    simp only [valM, findKey, val_clean ρ _ h.1, ih]
    split <;> rfl

theorem entries_val {g : Nat → Option B} {v : V} {es : List (V × V × Nat)} (h : entries g v = some es) : entries (gval ρ g) (val ρ v) = some (valM ρ es) ∧ (mapClean g v = true → keysClean es = true) := by
  unfold entries at h
  split at h
  · simp only [Option.some.injEq] at h
    subst h
    exact ⟨rfl, fun _ => rfl⟩
  · rename_i r
    simp only [val, entries, gval, mapClean]
    cases hg : g r with
    | none => rw [hg] at h; cases h
    | some b =>
      rw [hg] at h
      cases b with
      | mp es' c =>
        simp only [Option.some.injEq] at h
        subst h
        exact ⟨rfl, fun h => h⟩
      | c _ _ _ => cases h
      | it _ _ => cases h
  · cases h

theorem valM_length : ∀ es : List (V × V × Nat), (valM ρ es).length = es.length
  | [] => rfl
  | (_, _, _) :: es => by simp [valM, valM_length es]

theorem valM_set : ∀ (es : List (V × V × Nat)) (n : Nat) (k v : V), valM ρ (nthSet es n k v) = nthSet (valM ρ es) n (val ρ k) (val ρ v)
  | [], n, k, v => by cases n <;> rfl
  | (_, _, _) :: es, 0, k, v => rfl
  | (_, _, _) :: es, n + 1, k, v => by simp only [nthSet, valM, valM_set es n k v]

theorem valM_del : ∀ (es : List (V × V × Nat)) (n : Nat), valM ρ (nthDel es n) = nthDel (valM ρ es) n
  | [], n => by cases n <;> rfl
  | (_, _, _) :: es, 0 => rfl
  | (_, _, _) :: es, n + 1 => by simp only [nthDel, valM, valM_del es n]

theorem valM_push : ∀ (es : List (V × V × Nat)) (k v : V) (c : Nat), valM ρ (es ++ [(k, v, c)]) = valM ρ es ++ [(val ρ k, val ρ v, c)]
  | [], k, v, c => rfl
  | (_, _, _) :: es, k, v, c => by simp only [List.cons_append, valM, valM_push es k v c]

theorem bytesOf_u8 : ∀ l : List V, l.all isU8 = true → bytesOf (vals ρ l) = some (bytesV (vals ρ l))
  | [], _ => rfl
  | v :: l, h => by
    simp only [List.all_cons, Bool.and_eq_true] at h
    cases v <;> simp only [isU8, Bool.false_eq_true, false_and] at h
    rename_i k n
    cases k <;> simp only [Bool.false_eq_true, false_and] at h
    simp only [vals, val, bytesOf, bytesOf_u8 l h.2, bytesV]

theorem opRY_ok {e : Env} {g : Nat → Option B} {o : Oper} {v : V} (hx : XClean x) (hc : opClean o = true) (h : opRY x e g o = some v) : opR x (valE ρ e) (gval ρ g) o = some (val ρ v) := by
  unfold opClean at hc
  rw [Bool.and_eq_true] at hc
  have hc1 : ∀ u ∈ o.op.operands.toList, opdClean u = true := fun u hu => List.all_eq_true.1 hc.1 u hu
  unfold opRY at h
  unfold opR
  cases hop : o.op <;> rw [hop] at h hc1 <;> simp only [reduceCtorEq] at h ⊢ <;> simp only [Op.operands] at hc1
  case load t u =>
    rw [ev_val (hc1 u (by simp))]
    unfold opR at h
    simp only [hop] at h
    rcases ti_or h with ⟨i, hi, h⟩ | h
    · rw [ti_some _ hi]
      split at h
      · rename_i hv
        rw [hv]
        simp only [val]
        exact loadB_val h
      · cases h
    · cases h
  case lookup t m ix ok =>
   cases hcl0 : (clean (ev e ix) && mapClean g (ev e m)) with
   | false =>
    rw [hcl0] at h
    simp only [cond_false] at h
    rw [ev_val (hc1 m (by simp)), ev_val (hc1 ix (by simp))]
    unfold lookE at h
    rcases ti_or h with ⟨i, hi, h⟩ | h
    · rw [ti_some _ hi]
      cases hk : i.k <;> rw [hk] at h <;> try (simp only [reduceCtorEq] at h; done)
      rename_i kt et
      simp only at h ⊢
      rcases ti_or h with ⟨kti, hkt, h⟩ | h
      · rcases ti_or h with ⟨eti, het, h⟩ | h
        · rw [ti_some _ hkt, ti_some _ het]
          split at h
          · rename_i ks l he hf hg hkey
            obtain ⟨h1, h2⟩ := cond_both h
            simp only [Option.some.injEq] at h2
            subst h2
            rw [(entries_val (ρ := ρ) he).1, hkey]
            obtain ⟨b, hb⟩ := okK_ok (ρ := ρ) h1
            have hz := val_clean ρ _ (hx et eti het).2
            simp only [valM, findKey, val, eqF, hf, hg, hb]
            cases ok <;> simp only [cond_true, cond_false, val, vals, hz]
          · cases h
        · cases h
      · cases h
    · cases h
   | true =>
    rw [hcl0] at h
    simp only [cond_true] at h
    have hcl := hcl0
    rw [Bool.and_eq_true] at hcl
    unfold opR at h
    simp only [hop] at h
    rw [ev_val (hc1 m (by simp)), ev_val (hc1 ix (by simp))]
    rcases ti_or h with ⟨i, hi, h⟩ | h
    · rw [ti_some _ hi]
      cases hk : i.k <;> rw [hk] at h <;> simp only [reduceCtorEq] at h
      rename_i kt et
      rcases ti_or h with ⟨kti, hkt, h⟩ | h
      · rcases ti_or h with ⟨eti, het, h⟩ | h
        · simp only
          rw [ti_some _ hkt, ti_some _ het]
          cases hes : entries g (ev e m) with
          | none => rw [hes] at h; cases h
          | some es =>
            rw [hes] at h
            obtain ⟨a1, a2⟩ := entries_val (ρ := ρ) hes
            rw [a1]
            simp only at h ⊢
            rw [findKey_val hcl.1 es 0 (a2 hcl.2)]
            cases hf : findKey kti (ev e ix) es 0 with
            | none => rw [hf] at h; cases h
            | some r =>
              rw [hf] at h
              cases r with
              | none =>
                simp only [Option.some.injEq, Option.map_some, Option.map_none] at h ⊢
                subst h
                have hz := val_clean ρ _ (hx et eti het).2
                cases ok <;> simp only [cond_true, cond_false, val, vals, hz]
              | some p =>
                obtain ⟨n, w⟩ := p
                simp only [Option.some.injEq, Option.map_some] at h ⊢
                subst h
                cases ok <;> simp only [cond_true, cond_false, val, vals]
        · cases h
      · cases h
    · cases h
  case convert sT d u =>
    rw [ev_val (hc1 u (by simp))]
    unfold convR at h
    rcases ti_or h with ⟨i, hi, h⟩ | h
    · rcases ti_or h with ⟨j, hj, h⟩ | h
      · rw [ti_some _ hi, ti_some _ hj]
        have flat : ∀ {el : TypeId} {w : Option V}, (ti x el fun q => match q.k with
            | .int .u8 => w
            | _ => none) = some v → w = some v ∧ ∀ w' : Option V, (ti x el fun q => match q.k with
            | .int .u8 => w'
            | _ => none) = w' := by
          intro el w hh
          rcases ti_or hh with ⟨q, hq, hh⟩ | hh
          · split at hh
            · rename_i hq2
              refine ⟨hh, fun w' => ?_⟩
              rw [ti_some _ hq]
              simp only [hq2]
            · cases hh
          · cases hh
        cases hk : i.k <;> rw [hk] at h <;> try (simp only [reduceCtorEq] at h; done)
        rename_i el
        cases hk2 : j.k <;> rw [hk2] at h <;> try (simp only [reduceCtorEq] at h; done)
        · cases hv : ev e u <;> rw [hv] at h <;> try (simp only [reduceCtorEq] at h; done)
          · simp only [val] at h ⊢
            obtain ⟨h1, h2⟩ := flat h
            simp only [Option.some.injEq] at h1
            subst h1
            exact h2 (some (.s []))
          · rename_i r o n cap b
            simp only [val] at h ⊢
            rcases ti_or h with ⟨q, hq, h⟩ | h
            · rw [ti_some _ hq]
              split at h
              · rename_i l ty own hq2 hg
                simp only [hq2, gval, hg, Option.map_some, valB, sub_val]
                cases hs : sub l o n with
                | none => rw [hs] at h; cases h
                | some vs =>
                  rw [hs] at h
                  simp only [Option.map_some] at h ⊢
                  obtain ⟨h1, h2⟩ := cond_both h
                  simp only [Option.some.injEq] at h2
                  subst h2
                  rw [bytesOf_u8 vs h1, val_mkS]
              · cases h
            · cases h
          · simp only [val] at h ⊢
            obtain ⟨h1, h2⟩ := flat h
            simp only [Option.some.injEq] at h1
            subst h1
            exact h2 (some (.s []))
          · simp only [val] at h ⊢
            obtain ⟨h1, h2⟩ := flat h
            simp only [Option.some.injEq] at h1
            subst h1
            exact h2 (some (.s []))
        · cases hv : ev e u <;> rw [hv] at h <;> try (simp only [reduceCtorEq] at h; done)
          rename_i r o n cap b
          simp only [val] at h ⊢
          rcases ti_or h with ⟨q, hq, h⟩ | h
          · rw [ti_some _ hq]
            split at h
            · rename_i l ty own hq2 hg
              obtain ⟨h1, h2⟩ := cond_both h
              simp only [Option.some.injEq] at h2
              subst h2
              simp only [hq2, gval, hg, Option.map_some, valB, h1, cond_true, val]
            · cases h
          · cases h
      · cases h
    · cases h
  case call c =>
    unfold opR at h
    simp only [hop] at h
    unfold builtinR at h ⊢
    split at h
    · rename_i w hw
      obtain ⟨hcl, h⟩ := cond_both h
      simp only [Option.some.injEq] at h
      subst h
      split at hw
      · rename_i b hb
        split at hw
        · split at hw
          · rename_i u t ha ht
            have hu := hc1 u (by simp only [Call.operands, Array.toList_append, List.mem_append]; right; rw [ha]; simp)
            try simp only [hb, ha, ht]
            rw [ev_val hu]
            rcases ti_or hw with ⟨i, hi, hw⟩ | hw
            · rw [ti_some _ hi]
              cases hk : i.k <;> rw [hk] at hw <;> simp only [reduceCtorEq] at hw
              simp only
              cases hes : entries g (ev e u) with
              | none => rw [hes] at hw; cases hw
              | some es =>
                rw [hes] at hw
                rw [(entries_val (ρ := ρ) hes).1]
                simp only [Option.some.injEq, valM_length] at hw ⊢
                rw [val_clean ρ _ hcl, hw]
            · cases hw
          · cases hw
        · cases hw
      · cases hw
    · cases h

theorem opN_lift {e : Env} {r : Nat} {o : Oper} {b : B} {v : V} (hx : XClean x) (hc : opClean o = true) (h : opN x e r o = some (b, v))
    (hk : match o.op with
      | .makeSlice _ u w => clean (ev e u) = true ∧ clean (ev e w) = true
      | .convert _ _ u => ∀ fn caps, ev e u ≠ .f fn caps
      | _ => True) : opN x (valE ρ e) r o = some (valB ρ b, val ρ v) := by
  unfold opClean at hc
  rw [Bool.and_eq_true] at hc
  have hc1 : ∀ u ∈ o.op.operands.toList, opdClean u = true := fun u hu => List.all_eq_true.1 hc.1 u hu
  unfold opN at h ⊢
  cases hop : o.op <;> rw [hop] at h hk hc1 <;> simp only [reduceCtorEq] at h hk ⊢ <;> simp only [Op.operands] at hc1
  case alloc t =>
    rcases ti_or h with ⟨i, hi, h⟩ | h
    · rw [ti_some _ hi]
      simp only [Option.some.injEq, Prod.mk.injEq] at h ⊢
      obtain ⟨rfl, rfl⟩ := h
      simp only [valB, val, vals_clean ρ _ (hx t i hi).1, and_self]
    · cases h
  case box t u =>
    rw [ev_val (hc1 u (by simp))]
    simp only [Option.some.injEq, Prod.mk.injEq] at h ⊢
    obtain ⟨rfl, rfl⟩ := h
    simp only [valB, val, cells_val, and_self]
  case buildSlice t n ps =>
    have hp : ∀ u ∈ ps.toList, opdClean u.2 = true := fun u hu => hc1 u.2 (by simp; exact ⟨u.1, by simpa using hu⟩)
    rw [evParts_val _ hp]
    rcases ti_or h with ⟨i, hi, h⟩ | h
    · rw [ti_some _ hi]
      cases hk2 : i.k <;> rw [hk2] at h <;> try (simp only [reduceCtorEq] at h; done)
      rename_i el
      simp only at h ⊢
      rcases ti_or h with ⟨j, hj, h⟩ | h
      · rw [ti_some _ hj]
        obtain ⟨hb, h⟩ := cond_both h
        rw [hb]
        simp only [cond_true, placesArr_val]
        cases hpl : placesArr j.sz (evParts e ps.toList) with
        | none => rw [hpl] at h; cases h
        | some l =>
          rw [hpl] at h
          simp only [Option.map_some] at h ⊢
          have := fillA_val (ρ := ρ) l (repl n j.zero)
          rw [repl_val, vals_clean ρ _ (hx el j hj).1] at this
          rw [this]
          cases hf : fillA (repl n j.zero) l with
          | none => rw [hf] at h; cases h
          | some cs =>
            rw [hf] at h
            simp only [Option.some.injEq, Prod.mk.injEq, Option.map_some] at h ⊢
            obtain ⟨rfl, rfl⟩ := h
            simp only [valB, val, and_self]
      · cases h
    · cases h
  case makeSlice t u w =>
    rw [ev_val (hc1 u (by simp)), ev_val (hc1 w (by simp)), val_clean ρ _ hk.1, val_clean ρ _ hk.2]
    rcases ti_or h with ⟨i, hi, h⟩ | h
    · rw [ti_some _ hi]
      split at h
      · rename_i el k1 n k2 c hk2 h1 h2
        rcases ti_or h with ⟨j, hj, h⟩ | h
        · try simp only [hk2, h1, h2]
          rw [ti_some _ hj]
          obtain ⟨hb, h⟩ := cond_both h
          rw [hb]
          simp only [cond_true, Option.some.injEq, Prod.mk.injEq] at h ⊢
          obtain ⟨rfl, rfl⟩ := h
          simp only [valB, val, repl_val, vals_clean ρ _ (hx el j hj).1, and_self]
        · cases h
      · cases h
    · cases h
  case makeMap t q =>
    cases q with
    | some _ => cases h
    | none =>
      simp only at h ⊢
      rcases ti_or h with ⟨i, hi, h⟩ | h
      · rw [ti_some _ hi]
        cases hk2 : i.k <;> rw [hk2] at h <;> simp only [reduceCtorEq, Option.some.injEq, Prod.mk.injEq] at h
        obtain ⟨rfl, rfl⟩ := h
        simp only [valB, valM, val]
      · cases h
  case convert sT d u =>
    rw [ev_val (hc1 u (by simp))]
    rcases ti_or h with ⟨i, hi, h⟩ | h
    · rcases ti_or h with ⟨j, hj, h⟩ | h
      · rw [ti_some _ hi, ti_some _ hj]
        cases hk1 : i.k <;> rw [hk1] at h <;> try (simp only [reduceCtorEq] at h; done)
        cases hk2 : j.k <;> rw [hk2] at h <;> try (simp only [reduceCtorEq] at h; done)
        rename_i el
        cases hv : ev e u <;> rw [hv] at h <;> try (simp only [reduceCtorEq] at h; done)
        rename_i l
        simp only [val] at h ⊢
        rcases ti_or h with ⟨q, hq, h⟩ | h
        · rw [ti_some _ hq]
          split at h
          · rename_i hq2
            obtain ⟨hb, h⟩ := cond_both h
            simp only [hq2, hb, cond_true, Option.some.injEq, Prod.mk.injEq] at h ⊢
            obtain ⟨rfl, rfl⟩ := h
            simp only [valB, val, bytes_cells, and_self]
          · cases h
        · cases h
      · cases h
    · cases h
  case range t u =>
    rw [ev_val (hc1 u (by simp))]
    rcases ti_or h with ⟨i, hi, h⟩ | h
    · rw [ti_some _ hi]
      split at h
      · rename_i l hk2 hv
        simp only [hk2, hv, val]
        simp only [Option.some.injEq, Prod.mk.injEq] at h ⊢
        obtain ⟨rfl, rfl⟩ := h
        simp only [valB, val, and_self]
      · cases h
    · cases h

theorem opNY_ok {e : Env} {r : Nat} {o : Oper} {p : B × V} (hx : XClean x) (hc : opClean o = true) (h : Runs ρ (opNY x e r o) s p s') : opN x (valE ρ e) r o = some (valB ρ p.1, val ρ p.2) := by
  obtain ⟨b, v⟩ := p
  have hc0 := hc
  unfold opClean at hc0
  rw [Bool.and_eq_true] at hc0
  have hc1 : ∀ u ∈ o.op.operands.toList, opdClean u = true := fun u hu => List.all_eq_true.1 hc0.1 u hu
  unfold opNY at h
  split at h
  · rename_i t u w hop
    cases hcl : (clean (ev e u) && clean (ev e w)) with
    | false => rw [hcl] at h; exact (runs_fail h).elim
    | true =>
      rw [hcl] at h
      exact opN_lift hx hc (runs_lift h).1 (by rw [hop]; simpa using hcl)
  · rename_i sT d u hop
    by_cases hv : ∃ fn caps, ev e u = .f fn caps
    · obtain ⟨fn, caps, hv⟩ := hv
      rw [hv] at h
      simp only at h
      rw [hop] at hc1
      simp only [Op.operands] at hc1
      have hu := hc1 u (by simp)
      cases hb : Nat.blt fn nameB with
      | true => rw [hb] at h; exact (runs_fail h).elim
      | false =>
        rw [hb] at h
        simp only [cond_false] at h
        split at h
        · rename_i i j hi hj
          split at h
          · rename_i el hk1 hk2
            split at h
            · rename_i q hq
              split at h
              · rename_i hq2
                cases hsz : Nat.beq q.sz 1 with
                | false => rw [hsz] at h; exact (runs_fail h).elim
                | true =>
                  rw [hsz] at h
                  simp only [cond_true] at h
                  obtain ⟨us, s1, h1, h2⟩ := runs_bind h
                  obtain ⟨h3, _⟩ := runs_pure h2
                  simp only [Prod.mk.injEq] at h3
                  obtain ⟨rfl, rfl⟩ := h3
                  have hu1 := bytesM_ok h1
                  have hu2 := bytesM_length h1
                  unfold opN
                  simp only [hop]
                  rw [ti_some _ hi, ti_some _ hj, ev_val hu, hv]
                  simp only [hk1, hk2, val, hb, cond_false]
                  rw [ti_some _ hq]
                  simp only [hq2, hsz, cond_true, valB, val, hu1, bytesV_length, vals_length, hu2]
              · exact (runs_fail h).elim
            · exact (runs_fail h).elim
          · exact (runs_fail h).elim
        · exact (runs_fail h).elim
    · have h0 : Runs ρ (liftM (opN x e r o)) s (b, v) s' := by
        cases he : ev e u <;> rw [he] at h <;> first | exact h | exact absurd ⟨_, _, he⟩ hv
      exact opN_lift hx hc (runs_lift h0).1 (by rw [hop]; exact fun fn caps he => hv ⟨fn, caps, he⟩)
  · refine opN_lift hx hc (runs_lift h).1 ?_
    cases hop : o.op <;> simp_all

end
end Go.Am
