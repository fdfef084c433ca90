/- The machine with names for integers: operations, by their kinds. -/
import Derived.Test.YtfkbofbdonmpfaaSy5
set_option linter.unusedSimpArgs false
set_option linter.unusedVariables false
set_option linter.unusedSectionVars false
set_option linter.unnecessarySimpa false
namespace Go.Am

section
variable {ρ : Nat → Int} {s s' : Sy} {x : X}

theorem opP_lift {e : Env} {o : Oper} {v : V} (hx : XClean x) (hc : opClean o = true) (h : opP x e o = some v)
    (hk : match o.op with
      | .move _ | .assign _ | .pick _ _ _ | .build _ _ | .makeInterface _ _ | .makeFunc _ _ _ | .fieldAddr _ _ _ | .field _ _ _ | .extract _ _ => True
      | .indexAddr _ _ ix => clean (ev e ix) = true
      | .nilCheck u => isSym (ev e u) = false
      | _ => False) : opP x (valE ρ e) o = some (val ρ v) := by
  unfold opClean at hc
  rw [Bool.and_eq_true] at hc
  have hc1 : ∀ u ∈ o.op.operands.toList, opdClean u = true := fun u hu => List.all_eq_true.1 hc.1 u hu
  have hc2 := hc.2
  unfold opP at h ⊢
  cases hop : o.op <;> rw [hop] at h hk hc1 hc2 <;> simp only at h hk hc2 ⊢ <;> simp only [Op.operands] at hc1
  case move u =>
    rw [ev_val (hc1 u (by simp))]
    simp only [Option.some.injEq] at h ⊢
    rw [h]
  case assign u =>
    rw [ev_val (hc1 u (by simp))]
    simp only [Option.some.injEq] at h ⊢
    rw [h]
  case pick c u w =>
    rw [ev_val (hc1 c (by simp)), ev_val (hc1 u (by simp)), ev_val (hc1 w (by simp))]
    split at h
    · rename_i hb
      rw [hb]
      simp only [val, Option.some.injEq] at h ⊢
      rw [h]
    · rename_i hb
      rw [hb]
      simp only [val, Option.some.injEq] at h ⊢
      rw [h]
    · cases h
  case build t ps =>
    have hp : ∀ u ∈ ps.toList, opdClean u.2 = true := fun u hu => hc1 u.2 (by simp; exact ⟨u.1, by simpa using hu⟩)
    rw [evParts_val _ hp]
    rcases ti_or h with ⟨i, hi, h⟩ | h
    · rw [ti_some _ hi]
      have hz := vals_clean ρ _ (hx t i hi).1
      split at h
      · rename_i fs hk2
        simp only [hk2, placesSt_val] at h ⊢
        cases hpl : placesSt fs (evParts e ps.toList) with
        | none => rw [hpl] at h; cases h
        | some l =>
          rw [hpl] at h
          simp only [Option.map_some] at h ⊢
          have := fillA_val (ρ := ρ) l i.zero
          rw [hz] at this
          rw [this]
          cases hf : fillA i.zero l with
          | none => rw [hf] at h; cases h
          | some cs =>
            rw [hf] at h
            simp only [Option.some.injEq, Option.map_some] at h ⊢
            subst h
            simp only [val]
      · rename_i n el hk2
        try simp only [hk2] at h ⊢
        rcases ti_or h with ⟨j, hj, h⟩ | h
        · rw [ti_some _ hj]
          simp only [placesArr_val] at h ⊢
          cases hpl : placesArr j.sz (evParts e ps.toList) with
          | none => rw [hpl] at h; cases h
          | some l =>
            rw [hpl] at h
            simp only [Option.map_some] at h ⊢
            have := fillA_val (ρ := ρ) l i.zero
            rw [hz] at this
            rw [this]
            cases hf : fillA i.zero l with
            | none => rw [hf] at h; cases h
            | some cs =>
              rw [hf] at h
              simp only [Option.some.injEq, Option.map_some] at h ⊢
              subst h
              simp only [val]
        · cases h
      · cases h
    · cases h
  case nilCheck u =>
    rw [ev_val (hc1 u (by simp))]
    split at h
    · rename_i hv
      rw [hv]
      simp only [Option.some.injEq] at h
      subst h
      simp only [val]
    · rename_i fn cs hv
      rw [hv] at hk ⊢
      simp only [isSym, Bool.not_eq_false'] at hk
      simp only [Option.some.injEq] at h
      subst h
      simp only [val, hk, cond_true]
    · rename_i hv
      rw [hv]
      simp only [Option.some.injEq] at h
      subst h
      simp only [val]
    · cases h
  case makeInterface t u =>
    rw [ev_val (hc1 u (by simp))]
    rcases ti_or h with ⟨i, hi, h⟩ | h
    · rw [ti_some _ hi]
      split at h
      · cases h
      · rename_i hk2
        simp only [Option.some.injEq] at h
        subst h
        simp only [val]
        try (split <;> first | rfl | exact absurd ‹_› (hk2 _))
    · cases h
  case makeFunc fn first cs =>
    unfold mkF at h ⊢
    split at h
    · rename_i f
      split at h
      · rename_i hfirst
        simp only [Option.some.injEq] at h
        subst h
        simp only at hc2
        have hcs : ∀ u ∈ cs.toList, opdClean u = true := fun u hu => hc1 u (by simp; right; simpa using hu)
        simp only [hfirst, evs_val _ hcs, val, hc2, cond_true]
      · cases h
    · cases h
  case fieldAddr st u f =>
    rw [ev_val (hc1 u (by simp))]
    rcases ti_or h with ⟨i, hi, h⟩ | h
    · rw [ti_some _ hi]
      split at h
      · rename_i fs hk2
        try simp only [hk2]
        split at h
        · rename_i off ft sz hfs
          try simp only [hfs]
          cases hz : Nat.beq sz 0 with
          | true => rw [hz] at h; cases h
          | false =>
            rw [hz] at h
            simp only [cond_false] at h ⊢
            split at h
            · rename_i hv
              rw [hv]
              simp only [Option.some.injEq] at h
              subst h
              simp only [val]
            · cases h
        · cases h
      · cases h
    · cases h
  case field t u f =>
    rw [ev_val (hc1 u (by simp))]
    rcases ti_or h with ⟨i, hi, h⟩ | h
    · rw [ti_some _ hi]
      split at h
      · rename_i fs hk2
        try simp only [hk2]
        split at h
        · rename_i off ft sz hfs
          try simp only [hfs]
          cases hz : Nat.beq sz 0 with
          | true => rw [hz] at h; cases h
          | false =>
            rw [hz] at h
            simp only [cond_false] at h ⊢
            rcases ti_or h with ⟨j, hj, h⟩ | h
            · rw [ti_some _ hj]
              split at h
              · rename_i l hv
                rw [hv]
                simp only [val, sub_val]
                cases hs : sub l off j.sz with
                | none => rw [hs] at h; cases h
                | some cs =>
                  rw [hs] at h
                  simp only [Option.map_some, vOfCells_valN] at h ⊢
                  rw [h]; rfl
              · cases h
            · cases h
        · cases h
      · cases h
    · cases h
  case indexAddr t u ix =>
    rw [ev_val (hc1 u (by simp)), ev_val (hc1 ix (by simp)), val_clean ρ _ hk]
    rcases ti_or h with ⟨i, hi, h⟩ | h
    · rw [ti_some _ hi]
      split at h
      · rename_i n hix
        try simp only [hix]
        split at h
        · rename_i len el r o hk2 hv
          rw [hv]
          obtain ⟨hb, h⟩ := cond_both h
          simp only [hk2, val, hb, cond_true]
          rcases ti_or h with ⟨j, hj, h⟩ | h
          · rw [ti_some _ hj]
            simp only [Option.some.injEq] at h ⊢
            subst h
            simp only [val]
          · cases h
        · rename_i el r o len a b hk2 hv
          rw [hv]
          obtain ⟨hb, h⟩ := cond_both h
          simp only [hk2, val, hb, cond_true]
          rcases ti_or h with ⟨j, hj, h⟩ | h
          · rw [ti_some _ hj]
            simp only [Option.some.injEq] at h ⊢
            subst h
            simp only [val]
          · cases h
        · cases h
      · cases h
    · cases h
  case extract u ix =>
    rw [ev_val (hc1 u (by simp))]
    split at h
    · rename_i l hv
      rw [hv]
      simp only [val, vals_get, h, Option.map_some]
    · cases h

theorem opPY_ok {e : Env} {o : Oper} {v : V} (hx : XClean x) (hc : opClean o = true) (h : Runs ρ (opPY x e o) s v s') : opP x (valE ρ e) o = some (val ρ v) := by
  have hc0 := hc
  unfold opClean at hc0
  rw [Bool.and_eq_true] at hc0
  have hc1 : ∀ u ∈ o.op.operands.toList, opdClean u = true := fun u hu => List.all_eq_true.1 hc0.1 u hu
  unfold opPY at h
  split at h
  · rename_i op t u w b hop
    rw [hop] at hc1
    simp only [Op.operands] at hc1
    have := binM_ok h
    unfold opP
    simp only [hop]
    rw [ev_val (hc1 u (by simp)), ev_val (hc1 w (by simp))]
    exact this
  · rename_i op t u hop
    rw [hop] at hc1
    simp only [Op.operands] at hc1
    have := unM_ok h
    unfold opP
    simp only [hop]
    rw [ev_val (hc1 u (by simp))]
    exact this
  · rename_i sT d u hop
    rw [hop] at hc1
    simp only [Op.operands] at hc1
    have := convM_ok h
    unfold opP
    simp only [hop]
    rw [ev_val (hc1 u (by simp))]
    exact this
  · rename_i t u lo hi mx hop
    rw [hop] at hc1
    simp only [Op.operands] at hc1
    have := slcY_ok (ρ := ρ) (runs_lift h).1
    unfold opP
    simp only [hop]
    have hm : ∀ q : Option Operand, (∀ y, q = some y → opdClean y = true) → q.map (ev (valE ρ e)) = (q.map (ev e)).map (val ρ) := by
      intro q hq
      cases q with
      | none => rfl
      | some y => simp only [Option.map_some, ev_val (hq y rfl)]
    rw [ev_val (hc1 u (by simp)), hm lo (fun y hy => hc1 y (by subst hy; simp)), hm hi (fun y hy => hc1 y (by subst hy; simp)), hm mx (fun y hy => hc1 y (by subst hy; simp))]
    exact this
  · rename_i t u ix hop
    rw [hop] at hc1
    simp only [Op.operands] at hc1
    have := idxM_ok h
    unfold opP
    simp only [hop]
    rw [ev_val (hc1 u (by simp)), ev_val (hc1 ix (by simp))]
    exact this
  · rename_i t u ix hop
    cases hcl : clean (ev e ix) with
    | false => rw [hcl] at h; exact (runs_fail h).elim
    | true =>
      rw [hcl] at h
      exact opP_lift hx hc (runs_lift h).1 (by rw [hop]; exact hcl)
  · rename_i u hop
    cases hcl : isSym (ev e u) with
    | true => rw [hcl] at h; exact (runs_fail h).elim
    | false =>
      rw [hcl] at h
      exact opP_lift hx hc (runs_lift h).1 (by rw [hop]; exact hcl)
  · rename_i c hop
    rw [hop] at hc1
    simp only [Op.operands] at hc1
    have := callPM_ok (fun u hu => hc1 u (by simp only [Call.operands, Array.toList_append, List.mem_append]; right; exact hu)) h
    unfold opP
    simp only [hop]
    exact this
  · have h1 := (runs_lift h).1
    refine opP_lift hx hc h1 ?_
    have h2 := h1
    unfold opP at h2
    cases hop : o.op <;> simp only [hop, reduceCtorEq] at h2 ⊢ <;> simp_all
    all_goals (rename_i hq; exact hq _ _ _ _ _ rfl rfl rfl rfl rfl)

end
end Go.Am
