/- The machine with names for integers: operations that write. -/
import Derived.Test.YtfkbofbdonmpfaaSy7
set_option linter.unusedSimpArgs false
set_option linter.unusedVariables false
set_option linter.unusedSectionVars false
set_option linter.unnecessarySimpa false
namespace Go.Am

section
variable {ρ : Nat → Int} {s s' : Sy} {x : X}

theorem runs_liftH {o : Option (V × H)} {v : V} {h' : H} (h : Runs ρ (liftH o) s (v, h') s') : o = some (v, h') ∧ val ρ v = v := by
  unfold liftH at h
  split at h
  · rename_i w h1
    cases hc : clean w with
    | true =>
      rw [hc] at h
      obtain ⟨h2, _⟩ := runs_pure h
      simp only [Prod.mk.injEq] at h2
      obtain ⟨rfl, rfl⟩ := h2
      exact ⟨rfl, val_clean ρ _ hc⟩
    | false => rw [hc] at h; exact (runs_fail h).elim
  · exact (runs_fail h).elim

theorem appendH_val {h h' : H} {t t' : TypeId} {u w v : V} (hx : XClean x) (hw : ∀ k n, w = .i k n → conc n = true) (ha : appendH x h t t' u w = some (v, h')) : appendH x (valH ρ h) t t' (val ρ u) (val ρ w) = some (val ρ v, valH ρ h') := by
  unfold appendH at ha ⊢
  rcases ti_or ha with ⟨i, hi, ha⟩ | ha
  · rw [ti_some _ hi]
    cases hk : i.k <;> rw [hk] at ha <;> try (simp only [reduceCtorEq] at ha; done)
    rename_i el
    simp only at ha ⊢
    rcases ti_or ha with ⟨j, hj, ha⟩ | ha
    · rw [ti_some _ hj]
      rcases ti_or ha with ⟨i', hi', ha⟩ | ha
      · rw [ti_some _ hi']
        have hz := vals_clean ρ _ (hx el j hj).1
        by_cases hint : ∃ q, i'.k = .int q
        · obtain ⟨q, hq⟩ := hint
          rw [hq] at ha ⊢
          cases w with
          | i k n =>
            cases n with
            | negSucc n => simp only [reduceCtorEq] at ha
            | ofNat n =>
              have hcl := hw _ _ rfl
              simp only [val, vi_conc hcl]
              simp only at ha
              obtain ⟨hb, ha⟩ := cond_both ha
              rw [hb]
              have := appA_val (ρ := ρ) ha
              rw [repl_val, hz] at this
              exact this
          | _ => simp only [reduceCtorEq] at ha
        · have gen : ∀ w1 : V, (match i'.k, w1 with
              | .int _, .i _ (.ofNat n) => bif Nat.ble n most && Nat.ble (n * j.by_) most then appA h el j u n (repl n j.zero) else none
              | .int _, _ => none
              | _, w => match lenV w with
                | some n => match fcells h j n w with
                  | some cs => appA h el j u n cs
                  | none => none
                | none => none) = (match lenV w1 with
                | some n => match fcells h j n w1 with
                  | some cs => appA h el j u n cs
                  | none => none
                | none => none) := by
            intro w1
            cases hq : i'.k <;> first | rfl | exact absurd ⟨_, hq⟩ hint
          have gen2 : ∀ (u1 w1 : V) (h1 : H), (match i'.k, w1 with
              | .int _, .i _ (.ofNat n) => bif Nat.ble n most && Nat.ble (n * j.by_) most then appA h1 el j u1 n (repl n j.zero) else none
              | .int _, _ => none
              | _, w => match lenV w with
                | some n => match fcells h1 j n w with
                  | some cs => appA h1 el j u1 n cs
                  | none => none
                | none => none) = (match lenV w1 with
                | some n => match fcells h1 j n w1 with
                  | some cs => appA h1 el j u1 n cs
                  | none => none
                | none => none) := by
            intro u1 w1 h1
            cases hq : i'.k <;> first | rfl | exact absurd ⟨_, hq⟩ hint
          refine (gen2 _ _ _).trans ?_
          replace ha := (gen w).symm.trans ha
          cases hl : lenV w with
          | none => rw [hl] at ha; cases ha
          | some n =>
            rw [hl] at ha
            simp only at ha
            rw [lenV_val hl]
            simp only
            cases hf : fcells h j n w with
            | none => rw [hf] at ha; cases ha
            | some cs =>
              rw [hf] at ha
              rw [fcells_val hf]
              exact appA_val ha
      · cases ha
    · cases ha
  · cases ha

theorem appM_ok {h h' : H} {t t' : TypeId} {u w v : V} (hx : XClean x) (ha : Runs ρ (appM x h t t' u w) s (v, h') s') : appendH x (valH ρ h) t t' (val ρ u) (val ρ w) = some (val ρ v, valH ρ h') := by
  by_cases hf : ∃ fn caps, w = .f fn caps
  · obtain ⟨fn, caps, rfl⟩ := hf
    unfold appM at ha
    simp only at ha
    cases hb : Nat.blt fn nameB with
    | true => rw [hb] at ha; exact (runs_fail ha).elim
    | false =>
      rw [hb] at ha
      simp only [cond_false] at ha
      split at ha
      · rename_i i i' hi hi'
        split at ha
        · exact (runs_fail ha).elim
        · rename_i el hk hnk
          split at ha
          · rename_i j hj
            obtain ⟨us, s1, h1, h2⟩ := runs_bind ha
            obtain ⟨h3, _⟩ := runs_lift h2
            have hu1 := bytesM_ok h1
            have hu2 := bytesM_length h1
            unfold appendH
            rw [ti_some _ hi]
            simp only [hk]
            rw [ti_some _ hj, ti_some _ hi']
            simp only [val, hb, cond_false]
            have h4 := appA_val (ρ := ρ) h3
            have hl : us.length = (bytesV (vals ρ caps)).length := by rw [bytesV_length, vals_length, hu2]
            rw [hu1, hl] at h4
            have fc : fcells (valH ρ h) j (bytesV (vals ρ caps)).length (.s (bytesV (vals ρ caps))) = some ((bytesV (vals ρ caps)).map fun c => V.i .u8 c.toNat) := by
              simp only [fcells, List.take_length]
            cases hq : i'.k <;> first
              | (exact absurd hq (hnk _))
              | (simp only [lenV, fc]; exact h4)
          · exact (runs_fail ha).elim
        · exact (runs_fail ha).elim
      · exact (runs_fail ha).elim
  · unfold appM at ha
    have h0 : ((∀ k n, w = .i k n → conc n = true)) ∧ appendH x h t t' u w = some (v, h') := by
      cases w <;> first
        | (exact absurd ⟨_, _, rfl⟩ hf)
        | (exact ⟨fun _ _ e => (by cases e), (runs_lift ha).1⟩)
        | (rename_i k n
           simp only at ha
           cases hc : conc n with
           | true => rw [hc] at ha; exact ⟨fun _ _ e => (by cases e; exact hc), (runs_lift ha).1⟩
           | false => rw [hc] at ha; exact (runs_fail ha).elim)
    exact appendH_val hx h0.1 h0.2

theorem copyH_val {h h' : H} {t : TypeId} {u w v : V} (hv : val ρ v = v) (ha : copyH x h t u w = some (v, h')) : copyH x (valH ρ h) t (val ρ u) (val ρ w) = some (val ρ v, valH ρ h') := by
  unfold copyH at ha ⊢
  rcases ti_or ha with ⟨i, hi, ha⟩ | ha
  · rw [ti_some _ hi, hv]
    cases hk : i.k <;> rw [hk] at ha <;> try (simp only [reduceCtorEq] at ha; done)
    rename_i el
    simp only at ha ⊢
    rcases ti_or ha with ⟨j, hj, ha⟩ | ha
    · rw [ti_some _ hj]
      split at ha
      · rename_i m n hm hn
        rw [lenV_val hm, lenV_val hn]
        simp only
        cases hf : fcells h j (min n m) w with
        | none => rw [hf] at ha; cases ha
        | some cs =>
          rw [hf] at ha
          rw [fcells_val hf]
          simp only at ha ⊢
          cases u with
          | sl r o a b c =>
            simp only [val] at ha ⊢
            cases hz : Nat.beq (min n m) 0 with
            | true =>
              rw [hz] at ha
              simp only [cond_true, Option.some.injEq, Prod.mk.injEq] at ha ⊢
              exact ⟨ha.1, by rw [ha.2]⟩
            | false =>
              rw [hz] at ha
              simp only [cond_false] at ha ⊢
              cases hs : storeB h r o cs with
              | none => rw [hs] at ha; cases ha
              | some h1 =>
                rw [hs] at ha
                rw [storeB_val hs]
                simp only [Option.some.injEq, Prod.mk.injEq] at ha ⊢
                exact ⟨ha.1, by rw [ha.2]⟩
          | ns => simp only [val, Option.some.injEq, Prod.mk.injEq] at ha ⊢; exact ⟨ha.1, by rw [ha.2]⟩
          | se _ _ _ => simp only [val, Option.some.injEq, Prod.mk.injEq] at ha ⊢; exact ⟨ha.1, by rw [ha.2]⟩
          | ze _ => simp only [val, Option.some.injEq, Prod.mk.injEq] at ha ⊢; exact ⟨ha.1, by rw [ha.2]⟩
          | _ => simp only [reduceCtorEq] at ha
      · cases ha
    · cases ha
  · cases ha

theorem clearH_val {h h' : H} {t : TypeId} {u v : V} (hx : XClean x) (ha : clearH x h t u = some (v, h')) : clearH x (valH ρ h) t (val ρ u) = some (val ρ v, valH ρ h') := by
  unfold clearH at ha ⊢
  rcases ti_or ha with ⟨i, hi, ha⟩ | ha
  · rw [ti_some _ hi]
    cases hk : i.k <;> rw [hk] at ha <;> try (simp only [reduceCtorEq] at ha; done)
    rename_i el
    cases u with
    | sl r o n a b =>
      simp only [val] at ha ⊢
      cases hz : Nat.beq n 0 with
      | true =>
        rw [hz] at ha
        simp only [cond_true, Option.some.injEq, Prod.mk.injEq] at ha ⊢
        obtain ⟨rfl, rfl⟩ := ha
        exact ⟨rfl, rfl⟩
      | false =>
        rw [hz] at ha
        simp only [cond_false] at ha ⊢
        rcases ti_or ha with ⟨j, hj, ha⟩ | ha
        · rw [ti_some _ hj]
          cases hs : storeB h r o (repl n j.zero) with
          | none => rw [hs] at ha; cases ha
          | some h1 =>
            rw [hs] at ha
            have := storeB_val (ρ := ρ) hs
            rw [repl_val, vals_clean ρ _ (hx el j hj).1] at this
            rw [this]
            simp only [Option.some.injEq, Prod.mk.injEq] at ha ⊢
            obtain ⟨rfl, rfl⟩ := ha
            exact ⟨rfl, rfl⟩
        · cases ha
    | ns => simp only [val, Option.some.injEq, Prod.mk.injEq] at ha ⊢; obtain ⟨rfl, rfl⟩ := ha; exact ⟨rfl, rfl⟩
    | se _ _ _ => simp only [val, Option.some.injEq, Prod.mk.injEq] at ha ⊢; obtain ⟨rfl, rfl⟩ := ha; exact ⟨rfl, rfl⟩
    | ze _ => simp only [val, Option.some.injEq, Prod.mk.injEq] at ha ⊢; obtain ⟨rfl, rfl⟩ := ha; exact ⟨rfl, rfl⟩
    | _ => simp only [reduceCtorEq] at ha
  · cases ha

theorem mapClean_mp {h : H} {r : Nat} {es : List (V × V × Nat)} {c : Nat} (hg : h.mem.get r = some (.mp es c)) (hc : mapClean h.mem.get (.m r) = true) : keysClean es = true := by
  simp only [mapClean, hg] at hc
  exact hc

theorem deleteH_val {h h' : H} {t : TypeId} {m k v : V} (hk : clean k = true) (hm : mapClean h.mem.get m = true) (ha : deleteH x h t m k = some (v, h')) : deleteH x (valH ρ h) t (val ρ m) (val ρ k) = some (val ρ v, valH ρ h') := by
  unfold deleteH at ha ⊢
  rcases ti_or ha with ⟨i, hi, ha⟩ | ha
  · rw [ti_some _ hi]
    cases hki : i.k <;> rw [hki] at ha <;> try (simp only [reduceCtorEq] at ha; done)
    rename_i kt et
    simp only at ha ⊢
    rcases ti_or ha with ⟨kti, hkt, ha⟩ | ha
    · rw [ti_some _ hkt]
      have hmr : ∃ r, m = .m r := by
        cases m with
        | m r => exact ⟨r, rfl⟩
        | _ => simp only [reduceCtorEq] at ha
      obtain ⟨r, rfl⟩ := hmr
      simp only [val] at ha ⊢
      rw [mem_val]
      cases hg : h.mem.get r with
      | none => rw [hg] at ha; cases ha
      | some b =>
        rw [hg] at ha
        cases b with
        | c _ _ _ => cases ha
        | it _ _ => cases ha
        | mp es c =>
          simp only [Option.map_some, valB] at ha ⊢
          rw [findKey_val hk es 0 (mapClean_mp hg hm)]
          cases hf : findKey kti k es 0 with
          | none => rw [hf] at ha; cases ha
          | some q =>
            rw [hf] at ha
            cases q with
            | none =>
              simp only [Option.map_some, Option.map_none, Option.some.injEq, Prod.mk.injEq] at ha ⊢
              obtain ⟨rfl, rfl⟩ := ha
              exact ⟨rfl, rfl⟩
            | some q =>
              obtain ⟨n, w⟩ := q
              simp only [Option.map_some, Option.some.injEq, Prod.mk.injEq] at ha ⊢
              obtain ⟨rfl, rfl⟩ := ha
              refine ⟨rfl, ?_⟩
              rw [← valM_del]
              exact putB_val h r (.mp (nthDel es n) c)
    · cases ha
  · cases ha

theorem nextH_val {h h' : H} {u v : V} {b : Bool} (hv : val ρ v = v) (ha : nextH h u b = some (v, h')) : nextH (valH ρ h) (val ρ u) b = some (val ρ v, valH ρ h') := by
  unfold nextH at ha ⊢
  rw [hv]
  obtain ⟨hb, ha⟩ := cond_both ha
  rw [hb]
  simp only [cond_true]
  split at ha
  · rename_i r _
    simp only [val]
    rw [mem_val]
    cases hg : h.mem.get r with
    | none => rw [hg] at ha; cases ha
    | some b1 =>
      rw [hg] at ha
      cases b1 with
      | c _ _ _ => cases ha
      | mp _ _ => cases ha
      | it l pos =>
        simp only [Option.map_some, valB] at ha ⊢
        cases hb2 : Nat.blt pos l.length with
        | true =>
          rw [hb2] at ha
          simp only [cond_true, Option.some.injEq, Prod.mk.injEq] at ha ⊢
          obtain ⟨rfl, rfl⟩ := ha
          exact ⟨rfl, putB_val h r (.it l _)⟩
        | false =>
          rw [hb2] at ha
          simp only [cond_false, Option.some.injEq, Prod.mk.injEq] at ha ⊢
          obtain ⟨rfl, rfl⟩ := ha
          exact ⟨rfl, rfl⟩
  · cases ha

theorem opHY_ok {e : Env} {h h' : H} {o : Oper} {v : V} (hx : XClean x) (hc : opClean o = true) (hh : Runs ρ (opHY x e h o) s (v, h') s') : opH x (valE ρ e) (valH ρ h) o = some (val ρ v, valH ρ h') := by
  unfold opClean at hc
  rw [Bool.and_eq_true] at hc
  have hc1 : ∀ u ∈ o.op.operands.toList, opdClean u = true := fun u hu => List.all_eq_true.1 hc.1 u hu
  unfold opHY at hh
  unfold opH
  split at hh
  · rename_i t u w hop
    rw [hop] at hc1
    simp only [Op.operands] at hc1
    have h1 := (runs_lift hh).1
    unfold opH at h1
    simp only [hop] at h1 ⊢
    rw [ev_val (hc1 u (by simp)), ev_val (hc1 w (by simp))]
    rcases ti_or h1 with ⟨i, hi, h1⟩ | h1
    · rw [ti_some _ hi]
      split at h1
      · rename_i r k hv
        rw [hv]
        simp only [val, cells_val, vals_length]
        obtain ⟨hb, h1⟩ := cond_both h1
        rw [hb]
        simp only [cond_true]
        cases hs : storeB h r k (cellsOfV (ev e w)) with
        | none => rw [hs] at h1; cases h1
        | some h2 =>
          rw [hs] at h1
          rw [storeB_val hs]
          simp only [Option.some.injEq, Prod.mk.injEq] at h1 ⊢
          obtain ⟨rfl, rfl⟩ := h1
          exact ⟨rfl, rfl⟩
      · cases h1
    · cases h1
  · rename_i t m k w hop
    rw [hop] at hc1
    simp only [Op.operands] at hc1
    cases hcl : (clean (ev e k) && mapClean h.mem.get (ev e m)) with
    | false => rw [hcl] at hh; exact (runs_fail hh).elim
    | true =>
      rw [hcl] at hh
      rw [Bool.and_eq_true] at hcl
      have h1 := (runs_lift hh).1
      unfold opH at h1
      simp only [hop] at h1 ⊢
      rw [ev_val (hc1 m (by simp)), ev_val (hc1 k (by simp)), ev_val (hc1 w (by simp))]
      rcases ti_or h1 with ⟨i, hi, h1⟩ | h1
      · rw [ti_some _ hi]
        cases hki : i.k <;> rw [hki] at h1 <;> try (simp only [reduceCtorEq] at h1; done)
        rename_i kt et
        simp only at h1 ⊢
        rcases ti_or h1 with ⟨kti, hkt, h1⟩ | h1
        · rw [ti_some _ hkt]
          split at h1
          · rename_i r hv
            rw [hv] at hcl ⊢
            simp only [val]
            rw [mem_val]
            cases hg : h.mem.get r with
            | none => rw [hg] at h1; cases h1
            | some b =>
              rw [hg] at h1
              cases b with
              | c _ _ _ => cases h1
              | it _ _ => cases h1
              | mp es c =>
                simp only [Option.map_some, valB] at h1 ⊢
                rw [findKey_val hcl.1 es 0 (mapClean_mp hg hcl.2)]
                cases hf : findKey kti (ev e k) es 0 with
                | none => rw [hf] at h1; cases h1
                | some q =>
                  rw [hf] at h1
                  cases q with
                  | none =>
                    simp only [Option.map_some, Option.map_none, Option.some.injEq, Prod.mk.injEq] at h1 ⊢
                    obtain ⟨rfl, rfl⟩ := h1
                    refine ⟨rfl, ?_⟩
                    rw [← valM_push]
                    exact putB_val h r (.mp (es ++ [(ev e k, ev e w, c)]) (c + 1))
                  | some q =>
                    obtain ⟨n, w1⟩ := q
                    simp only [Option.map_some, Option.some.injEq, Prod.mk.injEq] at h1 ⊢
                    obtain ⟨rfl, rfl⟩ := h1
                    refine ⟨rfl, ?_⟩
                    rw [← valM_set]
                    exact putB_val h r (.mp (nthSet es n (ev e k) (ev e w)) c)
          · cases h1
        · cases h1
      · cases h1
  · rename_i u b hop
    rw [hop] at hc1
    simp only [Op.operands] at hc1
    simp only [hop]
    obtain ⟨h1, h2⟩ := runs_liftH hh
    rw [ev_val (hc1 u (by simp))]
    exact nextH_val h2 h1
  · rename_i c hop
    rw [hop] at hc1
    simp only [Op.operands] at hc1
    have ha : ∀ u ∈ c.args.toList, opdClean u = true := fun u hu => hc1 u (by simp only [Call.operands, Array.toList_append, List.mem_append]; right; exact hu)
    simp only [hop]
    unfold builtinH
    split at hh
    · rename_i b hb
      simp only [hb]
      split at hh
      · rename_i u w t t' hargs ht
        simp only [hargs, ht]
        rw [ev_val (ha u (by rw [hargs]; simp)), ev_val (ha w (by rw [hargs]; simp))]
        exact appM_ok hx hh
      · rename_i u w t ts hargs ht
        simp only [hargs, ht]
        rw [ev_val (ha u (by rw [hargs]; simp)), ev_val (ha w (by rw [hargs]; simp))]
        cases hs : (isSym (ev e u) || isSym (ev e w)) with
        | true => rw [hs] at hh; exact (runs_fail hh).elim
        | false =>
          rw [hs] at hh
          obtain ⟨h1, h2⟩ := runs_liftH hh
          exact copyH_val h2 h1
      · rename_i u t hargs ht
        simp only [hargs, ht]
        rw [ev_val (ha u (by rw [hargs]; simp))]
        exact clearH_val hx (runs_lift hh).1
      · rename_i m k t ts hargs ht
        simp only [hargs, ht]
        rw [ev_val (ha m (by rw [hargs]; simp)), ev_val (ha k (by rw [hargs]; simp))]
        cases hcl : (clean (ev e k) && mapClean h.mem.get (ev e m)) with
        | false => rw [hcl] at hh; exact (runs_fail hh).elim
        | true =>
          rw [hcl] at hh
          rw [Bool.and_eq_true] at hcl
          exact deleteH_val hcl.1 hcl.2 (runs_lift hh).1
      · exact (runs_fail hh).elim
    · exact (runs_fail hh).elim
  · exact (runs_fail hh).elim

end
end Go.Am
