/- The machine with names for integers: operations that look at no memory. -/
import Derived.Test.YtfkbofbdonmpfaaSy4
set_option linter.unusedSimpArgs false
set_option linter.unusedVariables false
set_option linter.unusedSectionVars false
set_option linter.unnecessarySimpa false
namespace Go.Am

section
variable {ρ : Nat → Int} {s s' : Sy} {x : X}

theorem ti_or {α : Type} {t : TypeId} {k : TI → Option α} {v : α} (h : ti x t k = some v) : (∃ i, x.tt.get t = some i ∧ k i = some v) ∨ False := by
  unfold ti at h
  cases hg : x.tt.get t with
  | none => rw [hg] at h; cases h
  | some i => rw [hg] at h; exact .inl ⟨i, rfl, h⟩

theorem int_of {o : Option V} {z : Int} (h : intOf o = some z) : ∃ k, o = some (.i k z) := by
  unfold intOf at h
  split at h
  · simp only [Option.some.injEq] at h
    subst h
    exact ⟨_, rfl⟩
  · cases h

theorem ibin_kind {op : BinOp} {k k' : IntKind} {a b z : Int} (h : ibin op k a b = some (.i k' z)) : k' = k := by
  unfold ibin at h
  split at h <;> first
    | (simp only [Option.some.injEq, V.i.injEq] at h; exact h.1.symm)
    | (split at h <;> simp only [Option.some.injEq, V.i.injEq, reduceCtorEq] at h; exact h.1.symm)
    | (simp only [Option.some.injEq, reduceCtorEq] at h)

theorem shft_kind {op : BinOp} {k k' : IntKind} {a b z : Int} (h : shft op k a b = some (.i k' z)) : k' = k := by
  unfold shft at h
  split at h
  · cases h
  · split at h <;> first
      | (simp only [Option.some.injEq, V.i.injEq] at h; exact h.1.symm)
      | cases h

theorem un_kind {op : UnOp} {k k' : IntKind} {a z : Int} (h : un op (.i k a) = some (.i k' z)) : k' = k := by
  unfold un at h
  split at h
  · rename_i e; cases e
    simp only [Option.some.injEq, V.i.injEq] at h; exact h.1.symm
  · rename_i e; cases e
    exact ibin_kind h
  · rename_i e; cases e
  · cases h

theorem ibM_ok {op : BinOp} {k k' : IntKind} {m n : Int} {t : TypeId} {r : V} (h : Runs ρ (ibM op k k' m n) s r s') : bin x op t (.i k (vi ρ m)) (.i k' (vi ρ n)) = some (val ρ r) := by
  unfold ibM at h
  split at h
  · obtain ⟨z, s1, h1, h2⟩ := runs_bind h
    obtain ⟨rfl, _⟩ := runs_pure h2
    have hd := runs_def h1
    simp only [evD] at hd
    obtain ⟨k2, hk⟩ := int_of hd
    have := shft_kind hk; subst this
    simp only [bin, val]; exact hk
  · obtain ⟨z, s1, h1, h2⟩ := runs_bind h
    obtain ⟨rfl, _⟩ := runs_pure h2
    have hd := runs_def h1
    simp only [evD] at hd
    obtain ⟨k2, hk⟩ := int_of hd
    have := shft_kind hk; subst this
    simp only [bin, val]; exact hk
  all_goals
    cases hk : (k == k') with
    | false => rw [hk] at h; exact (runs_fail h).elim
    | true =>
      rw [hk] at h
      simp only [cond_true] at h
      have hk' : k = k' := by simpa using hk
      obtain ⟨z, s1, h1, h2⟩ := runs_bind h
      obtain ⟨rfl, _⟩ := runs_pure h2
      subst hk'
      first
        | (have hq := runs_ask h1
           simp only [evQ] at hq
           simp only [bin, if_true, ibin, val, hq])
        | (have hd := runs_def h1
           simp only [evD] at hd
           obtain ⟨k2, hk2⟩ := int_of hd
           have := ibin_kind hk2; subst this
           simp only [val, ← hk2]
           unfold bin
           simp only [if_true])

theorem s_eq {l : List UInt8} {v : V} (h : val ρ v = .s l) : v = .s l ∨ ∃ caps, v = .f nameB caps ∨ ∃ fn, v = .f fn caps := by
  cases v <;> simp only [val, reduceCtorEq, V.s.injEq] at h
  · left; rw [h]
  · right; rename_i fn caps; exact ⟨caps, .inr ⟨fn, rfl⟩⟩

theorem bin_s {op : BinOp} {t : TypeId} {m n : List UInt8} : bin x op t (.s m) (.s n) = sbin op m n := by unfold bin; rfl

theorem sbM_ok {op : BinOp} {t : TypeId} {u v r : V} (h : Runs ρ (sbM op u v) s r s') : bin x op t (val ρ u) (val ρ v) = some (val ρ r) := by
  unfold sbM at h
  split at h
  · split at h
    · rename_i xs ys hx hy
      cases hb : Nat.ble (xs.length + ys.length) 1099511627776 with
      | false => rw [hb] at h; exact (runs_fail h).elim
      | true =>
        rw [hb] at h
        obtain ⟨rfl, _⟩ := runs_pure h
        rw [strV_val hx, strV_val hy, bin_s, val_mkS, vals_append, bytesV_append]
        simp only [sbin, bytesV_length, vals_length, hb, cond_true]
    · exact (runs_fail h).elim
  · obtain ⟨b, s1, h1, h2⟩ := runs_bind h
    obtain ⟨rfl, _⟩ := runs_pure h2
    obtain ⟨l, l', hl, hl', he⟩ := eqS_ok h1
    rw [hl, hl', bin_s]
    simp only [sbin, he, val]
  · obtain ⟨b, s1, h1, h2⟩ := runs_bind h
    obtain ⟨rfl, _⟩ := runs_pure h2
    obtain ⟨l, l', hl, hl', he⟩ := eqS_ok h1
    rw [hl, hl', bin_s]
    simp only [sbin, he, val]
  · exact (runs_fail h).elim

theorem eqM_ok {t : TypeId} {u v : V} {b : Bool} (h : Runs ρ (eqM x t u v) s b s') : ∃ l l', u = .a l ∧ v = .a l' ∧ ∃ i, x.tt.get t = some i ∧ eqOp x i (val ρ u) (val ρ v) = some b := by
  unfold eqM at h
  split at h
  · exact (runs_fail h).elim
  · rename_i i hi
    split at h
    · rename_i ks l l' hf hg
      refine ⟨l, l', rfl, rfl, i, hi, ?_⟩
      have := eqKM_ok h
      simp only [val]
      unfold eqOp
      cases i.k <;> simp only [eqF, hf, hg, this]
    · exact (runs_fail h).elim

theorem binM_ok {op : BinOp} {t : TypeId} {u v r : V} (h : Runs ρ (binM x op t u v) s r s') : bin x op t (val ρ u) (val ρ v) = some (val ρ r) := by
  unfold binM at h
  cases hc : (clean u && clean v) with
  | true =>
    rw [hc] at h
    rw [Bool.and_eq_true] at hc
    obtain ⟨h1, h2⟩ := runs_liftC h
    rw [val_clean ρ _ hc.1, val_clean ρ _ hc.2, h2]; exact h1
  | false =>
    rw [hc] at h
    simp only [cond_false] at h
    split at h
    · simp only [val]; exact ibM_ok h
    · rename_i hn
      cases hs : ((strV u).isSome && (strV v).isSome) with
      | true => rw [hs] at h; exact sbM_ok h
      | false =>
        rw [hs] at h
        simp only [cond_false] at h
        split at h
        · obtain ⟨b, s1, h1, h2⟩ := runs_bind h
          obtain ⟨rfl, _⟩ := runs_pure h2
          obtain ⟨l, l', rfl, rfl, i, hi, he⟩ := eqM_ok h1
          simp only [val] at he ⊢
          unfold bin
          simp only [ti_some _ hi, he]
        · obtain ⟨b, s1, h1, h2⟩ := runs_bind h
          obtain ⟨rfl, _⟩ := runs_pure h2
          obtain ⟨l, l', rfl, rfl, i, hi, he⟩ := eqM_ok h1
          simp only [val] at he ⊢
          unfold bin
          simp only [ti_some _ hi, he]
        · exact (runs_fail h).elim

theorem unM_ok {op : UnOp} {v r : V} (h : Runs ρ (unM op v) s r s') : un op (val ρ v) = some (val ρ r) := by
  unfold unM at h
  cases hc : clean v with
  | true =>
    rw [hc] at h
    obtain ⟨h1, h2⟩ := runs_liftC h
    rw [val_clean ρ _ hc, h2]; exact h1
  | false =>
    rw [hc] at h
    simp only [cond_false] at h
    split at h
    · obtain ⟨z, s1, h1, h2⟩ := runs_bind h
      obtain ⟨rfl, _⟩ := runs_pure h2
      have hd := runs_def h1
      simp only [evD] at hd
      obtain ⟨k2, hk⟩ := int_of hd
      have := un_kind hk; subst this
      simp only [val]; exact hk
    · exact (runs_fail h).elim

theorem isSym_val {v : V} (h : isSym v = true) : ∃ caps, v = v ∧ val ρ v = .s (bytesV (vals ρ caps)) := by
  cases v <;> simp only [isSym, Bool.false_eq_true, Bool.not_eq_true'] at h
  rename_i fn caps
  exact ⟨caps, rfl, by simp only [val, h, cond_false]⟩

theorem convM_ok {sT d : TypeId} {v r : V} (h : Runs ρ (convM x sT d v) s r s') : convP x sT d (val ρ v) = some (val ρ r) := by
  unfold convM at h
  cases hc : clean v with
  | true =>
    rw [hc] at h
    obtain ⟨h1, h2⟩ := runs_liftC h
    rw [val_clean ρ _ hc, h2]; exact h1
  | false =>
    rw [hc] at h
    simp only [cond_false] at h
    split at h
    · rename_i i j hi hj
      unfold convP
      rw [ti_some _ hi, ti_some _ hj]
      split at h
      · rename_i k k2 n hk
        obtain ⟨z, s1, h1, h2⟩ := runs_bind h
        obtain ⟨rfl, _⟩ := runs_pure h2
        have hd := runs_def h1
        simp only [evD, Option.some.injEq] at hd
        simp only [hk, val, hd]
      · rename_i v1 _ w hk
        cases hs : isSym v1 with
        | true =>
          rw [hs] at h
          obtain ⟨rfl, _⟩ := runs_pure h
          obtain ⟨caps, _, hv⟩ := isSym_val (ρ := ρ) hs
          simp only [hk, hv]
        | false => rw [hs] at h; exact (runs_fail h).elim
      · exact (runs_fail h).elim
    · exact (runs_fail h).elim

theorem cleanO_val {o : Option V} (h : cleanO o = true) : o.map (val ρ) = o := by
  cases o with
  | none => rfl
  | some v => simp only [cleanO] at h; simp only [Option.map_some, val_clean ρ _ h]

theorem goE_val {v r : V} {lo hi mx : Option V} (hv : val ρ v = v) (h : goE v lo hi mx = some r) : val ρ r = r := by
  have : r = v := by
    unfold goE at h
    split at h
    · cases h
    · split at h
      · cases h
      · split at h
        · cases h
        · split at h
          · cases h
          · split at h
            · cases h
            · simp only [Option.some.injEq] at h; exact h.symm
          · simp only [Option.some.injEq] at h; exact h.symm
  rw [this]; exact hv

theorem goS_val {r0 o len cap sz : Nat} {el : Bool} {r : V} {lo hi mx : Option V} (h : goS r0 o len cap el sz lo hi mx = some r) : val ρ r = r := by
  have : (∃ a b c d e, r = .sl a b c d e) ∨ (∃ a b c, r = .se a b c) := by
    unfold goS at h
    split at h
    · cases h
    · split at h
      · cases h
      · split at h
        · cases h
        · split at h
          · cases h
          · simp only [Option.some.injEq] at h; exact .inl ⟨_, _, _, _, _, h.symm⟩
          · rcases cond_or h with h | h
            · rcases cond_or h with h | h
              · rcases cond_or h with h | h
                · simp only [Option.some.injEq] at h; exact .inr ⟨_, _, _, h.symm⟩
                · simp only [Option.some.injEq] at h; exact .inl ⟨_, _, _, _, _, h.symm⟩
              · cases h
            · rcases cond_or h with h | h
              · simp only [Option.some.injEq] at h; exact .inl ⟨_, _, _, _, _, h.symm⟩
              · cases h
  rcases this with ⟨_, _, _, _, _, rfl⟩ | ⟨_, _, _, rfl⟩ <;> rfl

theorem slc_valN {t : TypeId} {v r : V} {lo hi mx : Option V} (h : slc x t v lo hi mx = some r) : val ρ v = v ∧ val ρ r = r := by
  unfold slc at h
  unfold ti at h
  split at h
  · rename_i i hi
    simp only at h
    split at h
    · split at h
      · cases h
      · split at h
        · cases h
        · split at h
          · cases h
          · simp only [Option.some.injEq] at h; subst h; exact ⟨rfl, rfl⟩
    · split at h
      · exact ⟨rfl, goS_val h⟩
      · cases h
    · split at h
      · exact ⟨rfl, goE_val rfl h⟩
      · cases h
    · split at h
      · exact ⟨rfl, goE_val rfl h⟩
      · cases h
    · split at h
      · exact ⟨rfl, goE_val rfl h⟩
      · cases h
    · split at h
      · exact ⟨rfl, goS_val h⟩
      · cases h
    · cases h
  · cases h

theorem slcY_ok {t : TypeId} {v r : V} {lo hi mx : Option V} (h : slcY x t v lo hi mx = some r) : slc x t (val ρ v) (lo.map (val ρ)) (hi.map (val ρ)) (mx.map (val ρ)) = some (val ρ r) := by
  unfold slcY at h
  obtain ⟨hc, h⟩ := cond_both h
  simp only [Bool.and_eq_true] at hc
  rw [cleanO_val hc.1.1, cleanO_val hc.1.2, cleanO_val hc.2]
  by_cases hv : ∃ fn caps, v = .f fn caps
  · obtain ⟨fn, caps, rfl⟩ := hv
    simp only at h
    cases hb : Nat.blt fn nameB with
    | true => rw [hb] at h; cases h
    | false =>
      rw [hb] at h
      simp only [cond_false] at h
      simp only [val, hb, cond_false]
      unfold slc
      unfold ti at h ⊢
      split at h
      · rename_i i hi
        try rw [hi]
        simp only at h ⊢
        split at h
        · have hk : i.k = K.str := by assumption
          simp only [hk, bytesV_length, vals_length]
          split at h
          · cases h
          · rename_i hh hbd
            rw [hbd]
            simp only
            split at h
            · cases h
            · rename_i k hbd2
              rw [hbd2]
              simp only [Option.some.injEq] at h ⊢
              subst h
              rw [val_mkS, vals_take, vals_drop, bytesV_take, bytesV_drop]
        · cases h
      · cases h
  · have h0 : slc x t v lo hi mx = some r := by
      cases v <;> first | exact h | exact absurd ⟨_, _, rfl⟩ hv
    obtain ⟨h1, h2⟩ := slc_valN (ρ := ρ) h0
    rw [h1, h2]; exact h0

theorem idxM_ok {t : TypeId} {v ix r : V} (h : Runs ρ (idxM x t v ix) s r s') : idxP x t (val ρ v) (val ρ ix) = some (val ρ r) := by
  unfold idxM at h
  cases hc : clean ix with
  | false => rw [hc] at h; exact (runs_fail h).elim
  | true =>
    rw [hc] at h
    simp only [cond_true] at h
    rw [val_clean ρ _ hc]
    by_cases hv : ∃ fn caps, v = .f fn caps
    · obtain ⟨fn, caps, rfl⟩ := hv
      simp only at h
      cases hb : Nat.blt fn nameB with
      | true => rw [hb] at h; exact (runs_fail h).elim
      | false =>
        rw [hb] at h
        simp only [cond_false] at h
        simp only [val, hb, cond_false]
        unfold idxP
        split at h
        · rename_i i k n hi
          rw [ti_some _ hi]
          simp only
          split at h
          · rename_i c hk hcaps
            have := byteM_ok h
            simp only [hk, bytesV_get, vals_get, hcaps, Option.map_some, this]
          · exact (runs_fail h).elim
        · exact (runs_fail h).elim
    · have h0 : Runs ρ (liftM (idxP x t v ix)) s r s' := by
        cases v <;> first | exact h | exact absurd ⟨_, _, rfl⟩ hv
      obtain ⟨h1, _⟩ := runs_lift h0
      unfold idxP at h1 ⊢
      unfold ti at h1 ⊢
      split at h1
      · rename_i i hi
        try rw [hi]
        simp only at h1 ⊢
        split at h1
        · rename_i k n
          split at h1
          · rename_i len el cs hk
            obtain ⟨hb, h1⟩ := cond_both h1
            simp only [hk, val, hb, cond_true]
            split at h1
            · rename_i j hj
              try rw [hj]
              simp only [sub_val] at h1 ⊢
              cases hs : sub cs (n * j.sz) j.sz with
              | none => rw [hs] at h1; cases h1
              | some vs =>
                rw [hs] at h1
                simp only [Option.map_some, vOfCells_valN] at h1 ⊢
                rw [h1]; rfl
            · cases h1
          · rename_i l hk
            simp only [hk, val]
            cases hl : l[n]? with
            | none => rw [hl] at h1; cases h1
            | some c =>
              rw [hl] at h1
              simp only [Option.some.injEq] at h1 ⊢
              subst h1
              have := bytes_cells (ρ := ρ) [c]
              simp only [List.map_cons, List.map_nil, vals, List.cons.injEq, and_true] at this
              exact this.symm
          · cases h1
        · cases h1
      · cases h1

theorem mmM_ok {mn : Bool} {u v r : V} (h : Runs ρ (mmM mn u v) s r s') : (bif mn then minP (val ρ u) (val ρ v) else maxP (val ρ u) (val ρ v)) = some (val ρ r) := by
  unfold mmM at h
  cases hc : (clean u && clean v) with
  | true =>
    rw [hc] at h
    rw [Bool.and_eq_true] at hc
    obtain ⟨h1, h2⟩ := runs_liftC h
    rw [val_clean ρ _ hc.1, val_clean ρ _ hc.2, h2]; exact h1
  | false =>
    rw [hc] at h
    simp only [cond_false] at h
    split at h
    · obtain ⟨b, s1, h1, h2⟩ := runs_bind h
      obtain ⟨rfl, _⟩ := runs_pure h2
      have hq := runs_ask h1
      cases mn <;> simp only [cond_true, cond_false, evQ] at hq ⊢ <;> simp only [val, minP, maxP]
      · cases b with
        | true => rw [if_pos (of_decide_eq_true hq)]; rfl
        | false => rw [if_neg (of_decide_eq_false hq)]; rfl
      · cases b with
        | true => rw [if_pos (of_decide_eq_true hq)]; rfl
        | false => rw [if_neg (of_decide_eq_false hq)]; rfl
    · exact (runs_fail h).elim

theorem lenP_val {i : TI} {v r : V} (hf : ∀ fn caps, v ≠ .f fn caps) (h : lenP i v = some r) : lenP i (val ρ v) = some r := by
  cases v <;> simp only [val] <;> first
    | exact h
    | (exact absurd rfl (hf _ _))
    | (unfold lenP at h ⊢; cases hk : i.k <;> simp only [hk] at h ⊢ <;> first | exact h | cases h)

theorem capP_val {i : TI} {v r : V} (hf : ∀ fn caps, v ≠ .f fn caps) (h : capP i v = some r) : capP i (val ρ v) = some r := by
  cases v <;> simp only [val] <;> first
    | exact h
    | (exact absurd rfl (hf _ _))
    | (unfold capP at h ⊢; cases hk : i.k <;> simp only [hk] at h ⊢ <;> first | exact h | cases h)

theorem callPM_ok {e : Env} {c : Call} {r : V} (hc : ∀ u ∈ c.args.toList, opdClean u = true) (h : Runs ρ (callPM x e c) s r s') : builtinP x (valE ρ e) c = some (val ρ r) := by
  unfold callPM at h
  split at h
  · rename_i b hb
    unfold builtinP
    simp only [hb]
    split at h
    · rename_i u w ha
      have h1 := hc u (by rw [ha]; simp)
      have h2 := hc w (by rw [ha]; simp)
      have := mmM_ok h
      simp only [cond_true] at this
      simp only [ha, ev_val h1, ev_val h2, this]
    · rename_i u w ha
      have h1 := hc u (by rw [ha]; simp)
      have h2 := hc w (by rw [ha]; simp)
      have := mmM_ok h
      simp only [cond_false] at this
      simp only [ha, ev_val h1, ev_val h2, this]
    · rename_i u t ha ht
      have h1 := hc u (by rw [ha]; simp)
      simp only [ha, ht, ev_val h1]
      split at h
      · rename_i fn caps he
        cases hb2 : Nat.blt fn nameB with
        | true => rw [hb2] at h; exact (runs_fail h).elim
        | false =>
          rw [hb2] at h
          simp only [cond_false] at h
          split at h
          · rename_i i hi
            split at h
            · rename_i hk
              obtain ⟨a1, a2⟩ := runs_liftC h
              simp only [Option.some.injEq] at a1
              rw [ti_some _ hi, he, a2, ← a1]
              simp only [val, hb2, cond_false, lenP, hk, bytesV_length, vals_length]
            · exact (runs_fail h).elim
          · exact (runs_fail h).elim
      · rename_i hf
        split at h
        · rename_i i hi
          obtain ⟨a1, a2⟩ := runs_liftC h
          rw [ti_some _ hi, a2]
          exact lenP_val (fun fn caps e => hf fn caps e) a1
        · exact (runs_fail h).elim
    · rename_i u t ha ht
      have h1 := hc u (by rw [ha]; simp)
      simp only [ha, ht, ev_val h1]
      split at h
      · exact (runs_fail h).elim
      · rename_i hf
        split at h
        · rename_i i hi
          obtain ⟨a1, a2⟩ := runs_liftC h
          rw [ti_some _ hi, a2]
          exact capP_val (fun fn caps e => hf fn caps e) a1
        · exact (runs_fail h).elim
    · exact (runs_fail h).elim
  · exact (runs_fail h).elim

end
end Go.Am
