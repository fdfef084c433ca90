/- The reference: signs read, signs written. -/
import Derived.Test.YtbkhielalbbopaaDoorXs11
set_option linter.unusedSimpArgs false
set_option linter.unusedVariables false
set_option linter.unusedSectionVars false
set_option linter.unnecessarySimpa false
set_option maxRecDepth 100000
namespace Go.Am.Xm
theorem cut1_no {c : UInt8} : ∀ {l : Bs}, c ∉ l → cut1 c l = none
  | [], _ => rfl
  | a :: l, h => by
    have ha : a ≠ c := fun e => h (e ▸ List.mem_cons_self ..)
    simp only [cut1, if_neg ha, cut1_no fun hm => h (List.mem_cons_of_mem _ hm)]
theorem unE_far {d : Bs} (h : ∀ nm r, cut1 59 d = some (nm, r) → sgn nm = none) : unE (38 :: d) = none := by
  cases e : cut1 59 d with
  | none => exact unE_amp_none e
  | some p => rw [unE_amp e, h _ _ e]
end Go.Am.Xm
namespace Go.Proofs.YtbkhielalbbopaaDoor.Wb
open Go Go.Am Go.Am.Xm

theorem rin_ok {n : Nat} {s t : Bs} {i : Nat} (hl : s.length < 50000) {h : H} {K : V → H → Prop} {it : V → V → V → H → Prop}
    (kk : ∀ k, i + 1 ≤ k → k ≤ s.length → k ≤ i + 12 → (∀ j, i + 1 ≤ j → j < k → s[j]? ≠ some 59) → (k = s.length ∨ s[k]? = some 59 ∨ k = i + 12) → F13_33 pw (mkX Tryd.prog) (Ok Tryd.prog n) K it (.s s) (.s t) (.i .i64 i) (.i .i64 k) h) :
    ∀ (m k : Nat), i + 12 - k < m → i + 1 ≤ k → k ≤ s.length → k ≤ i + 12 → (∀ j, i + 1 ≤ j → j < k → s[j]? ≠ some 59) →
      F13_85 pw (mkX Tryd.prog) (Ok Tryd.prog n) K it m (.s s) (.s t) (.i .i64 i) (.i .i64 k) h := by
  intro m
  induction m with
  | zero => intro k hm; omega
  | succ m ih =>
    intro k hm h1 h2 h3 h4
    show pw.lg _ _ _ _
    rw [lg_s tt9 rfl, lt_i]
    by_cases hk : k < s.length
    · rw [decide_eq_true (show (k : Int) < s.length by omega)]
      have hsp : s[k]? = some (s[k]'hk) := List.getElem?_eq_getElem hk
      simp only [g1_t]
      rw [show pw.ix (mkX Tryd.prog) 9 (.s s) (.i .i64 k) = fun κ => κ (.i .u8 (s[k]'hk).toNat) from funext fun κ => ix_s tt9 rfl hsp]
      simp only [ne_i, pk_t]
      by_cases hc : s[k]'hk = 59
      · have : decide (((s[k]'hk).toNat : Int) = 59) = true := by rw [hc]; rfl
        rw [this]
        simp only [Bool.not_true, g1_f, pk_f, cd_f]
        exact kk k h1 h2 h3 h4 (.inr (.inl (by rw [hsp, hc])))
      · have : decide (((s[k]'hk).toNat : Int) = 59) = false := decide_eq_false fun e => hc ((u8_eq (n := 59) (by decide)).2 (by omega))
        rw [this]
        simp only [Bool.not_false, g1_t, pk_t]
        rw [ad_64 (by omega), lt_i]
        by_cases h5 : k < i + 12
        · rw [decide_eq_true (show (k : Int) < (i : Int) + 12 by omega), cd_t]
          unfold F13_90
          rw [ad_64 (by omega), show (k : Int) + 1 = ((k + 1 : Nat) : Int) by omega]
          refine ih (k + 1) (by omega) (by omega) (by omega) (by omega) fun j hj1 hj2 => ?_
          by_cases e : j = k
          · subst e
            rw [hsp]
            intro e
            exact hc (Option.some.inj e)
          · exact h4 j hj1 (by omega)
        · rw [decide_eq_false (show ¬ (k : Int) < (i : Int) + 12 by omega), cd_f]
          exact kk k h1 h2 h3 h4 (.inr (.inr (by omega)))
    · rw [decide_eq_false (show ¬ (k : Int) < s.length by omega)]
      simp only [g1_f, pk_f, cd_f]
      exact kk k h1 h2 h3 h4 (.inl (by omega))

theorem runl_ok {n : Nat} (hn : 2 ≤ n) {s : Bs} (hl : s.length < 50000) {hS : H} {K : V → H → Prop} {R : Option Bs}
    (k : ∀ h', But hS h' none → K (RV R) h') :
    ∀ (m i : Nat) (t : Bs) (h : H), s.length - i < m → i ≤ s.length → t.length + 4 * (s.length - i) ≤ 1000000 → But hS h none → (unE (s.drop i)).map (t ++ ·) = R →
      F13_11 pw (mkX Tryd.prog) (Ok Tryd.prog n) (fun v h => Bd h → K v h) m (.s s) (.s t) (.i .i64 i) h := by
  intro m
  induction m with
  | zero => intro i t h hm; omega
  | succ m ih =>
    intro i t h hm hi ht f hR
    show pw.lg _ _ _ _
    rw [lg_s tt9 rfl, lt_i]
    by_cases hlt : i < s.length
    · rw [decide_eq_true (show (i : Int) < s.length by omega), cd_t]
      have hsp : s[i]? = some (s[i]'hlt) := List.getElem?_eq_getElem hlt
      unfold F13_15
      rw [ix_s tt9 rfl hsp, ne_i]
      rw [List.drop_eq_getElem_cons hlt] at hR
      by_cases hc : s[i]'hlt = 38
      · have : decide (((s[i]'hlt).toNat : Int) = 38) = true := by rw [hc]; rfl
        rw [this, Bool.not_true, cd_f]
        rw [hc] at hR
        unfold F13_26
        rw [ad_64 (by omega), show (i : Int) + 1 = ((i + 1 : Nat) : Int) by omega]
        have non : unE (38 :: s.drop (i + 1)) = none → ∀ h', But hS h' none → K (RV none) h' := by
          intro e
          rw [e] at hR
          rw [← hR] at k
          exact k
        have hget : ∀ j, (s.drop (i + 1))[j]? = s[i + 1 + j]? := fun j => by rw [List.getElem?_drop]
        refine rin_ok hl (fun q h1 h2 h3 h4 h5 => ?_) 100000 (i + 1) (by omega) (Nat.le_refl _) (by omega) (by omega) (fun j h1 h2 => by omega)
        unfold F13_33
        rw [lg_s tt9 rfl, ge_i]
        by_cases hq : q = s.length
        · rw [decide_eq_true (show (s.length : Int) ≤ q by omega)]
          simp only [g0_t, pk_t, cd_t]
          refine fun _ => non (unE_amp_none (cut1_no fun hm => ?_)) h f
          obtain ⟨j, hj, e⟩ := List.getElem_of_mem hm
          have := hget j
          rw [List.getElem?_eq_getElem hj, e] at this
          rw [List.length_drop] at hj
          exact h4 (i + 1 + j) (by omega) (by omega) this.symm
        · have hq' : q < s.length := by omega
          rw [decide_eq_false (show ¬ (s.length : Int) ≤ q by omega)]
          have hsq : s[q]? = some (s[q]'hq') := List.getElem?_eq_getElem hq'
          simp only [g0_f]
          rw [show pw.ix (mkX Tryd.prog) 9 (.s s) (.i .i64 q) = fun κ => κ (.i .u8 (s[q]'hq').toNat) from funext fun κ => ix_s tt9 rfl hsq]
          simp only [ne_i, pk_f]
          by_cases h59 : s[q]'hq' = 59
          · have : decide (((s[q]'hq').toNat : Int) = 59) = true := by rw [h59]; rfl
            rw [this, Bool.not_true, cd_f]
            have hcut : cut1 59 (s.drop (i + 1)) = some ((s.drop (i + 1)).take (q - (i + 1)), s.drop (q + 1)) := by
              have e : s.drop (i + 1) = (s.drop (i + 1)).take (q - (i + 1)) ++ 59 :: s.drop (q + 1) := by
                rw [← h59, ← List.drop_eq_getElem_cons hq']
                have := List.take_append_drop (q - (i + 1)) (s.drop (i + 1))
                rw [List.drop_drop, show i + 1 + (q - (i + 1)) = q by omega] at this
                exact this.symm
              have hno : (59 : UInt8) ∉ (s.drop (i + 1)).take (q - (i + 1)) := by
                intro hm
                obtain ⟨j, hj, e⟩ := List.getElem_of_mem hm
                have hj' : j < q - (i + 1) := by rw [List.length_take] at hj; omega
                have e2 : (s.drop (i + 1))[j]? = some 59 := by
                  rw [← e, List.getElem_take]
                  exact List.getElem?_eq_getElem _
                rw [hget] at e2
                exact h4 (i + 1 + j) (by omega) (by omega) e2
              have := cut1_mk (t := s.drop (q + 1)) hno
              rw [← e] at this
              exact this
            rw [unE_amp hcut] at hR
            unfold F13_38
            rw [ad_64 (by omega), show (i : Int) + 1 = ((i + 1 : Nat) : Int) by omega, sc_s2 tt9 rfl h1 (by omega), cf_k]
            refine rsign_ok hn fun h' f' => ?_
            cases hs : sgn ((s.drop (i + 1)).take (q - (i + 1))) with
            | none =>
              rw [hs] at hR
              simp only [RV, ex_t, List.getElem?_cons_zero, List.getElem?_cons_succ, oP_some, nt_b, Bool.not_false, cd_t]
              have := k h' (f.trans f')
              rw [← hR] at this
              exact fun _ => this
            | some o =>
              rw [hs] at hR
              have ho := sgn_four hs
              simp only [RV, ex_t, List.getElem?_cons_zero, List.getElem?_cons_succ, oP_some, nt_b, Bool.not_true, cd_f]
              unfold F13_54
              rw [ad_s (by omega)]
              unfold F13_19
              rw [ad_64 (by omega), show (q : Int) + 1 = ((q + 1 : Nat) : Int) by omega]
              refine ih (q + 1) _ h' (by omega) (by omega) (by rw [List.length_append]; omega) (f.trans f') ?_
              rw [← hR]
              simp only [Option.map_map]
              congr 1
              funext u
              simp
          · have : decide (((s[q]'hq').toNat : Int) = 59) = false := decide_eq_false fun e => h59 ((u8_eq (n := 59) (by decide)).2 (by omega))
            rw [this, Bool.not_false, cd_t]
            have hq12 : q = i + 12 := by
              rcases h5 with h5 | h5 | h5
              · exact absurd h5 hq
              · rw [hsq] at h5; exact absurd (Option.some.inj h5) h59
              · exact h5
            refine fun _ => non (unE_far fun nm r e => ?_) h f
            cases hs : sgn nm with
            | none => rfl
            | some o =>
              have hlen := sgn_len hs
              have e2 := (cut1_some e).1
              have e3 : (s.drop (i + 1))[nm.length]? = some 59 := by
                rw [e2, List.getElem?_append_right (Nat.le_refl _), Nat.sub_self]; rfl
              rw [hget] at e3
              exact absurd e3 (h4 _ (by omega) (by omega))
      · have : decide (((s[i]'hlt).toNat : Int) = 38) = false := decide_eq_false fun e => hc ((u8_eq (n := 38) (by decide)).2 (by omega))
        rw [this, Bool.not_false, cd_t]
        rw [unE_cons hc] at hR
        rw [ad_64 (by omega), show (i : Int) + 1 = ((i + 1 : Nat) : Int) by omega, sc_s2 tt9 rfl (by omega) (by omega)]
        have e1 : (s.drop i).take (i + 1 - i) = [s[i]'hlt] := by
          rw [show i + 1 - i = 1 by omega, List.drop_eq_getElem_cons hlt]; rfl
        rw [e1, ad_s (by rw [List.length_singleton]; omega)]
        unfold F13_19
        rw [ad_64 (by omega), show (i : Int) + 1 = ((i + 1 : Nat) : Int) by omega]
        refine ih (i + 1) _ h (by omega) (by omega) (by rw [List.length_append, List.length_singleton]; omega) f ?_
        rw [← hR, Option.map_map]
        congr 1
        funext u
        simp
    · rw [decide_eq_false (show ¬ (i : Int) < s.length by omega), cd_f]
      rw [List.drop_eq_nil_of_le (by omega), unE_nil] at hR
      have := k h f
      rw [← hR] at this
      simp only [Option.map_some, RV, List.append_nil] at this
      exact fun _ => this

/-- The reference's Unescape: 'unE'. -/
theorem run_ok {n : Nat} (hn : 3 ≤ n) {h : H} {K : V → H → Prop} {l : Bs} (hl : l.length < 50000)
    (k : ∀ h', But h h' none → K (RV (unE l)) h') : Ok Tryd.prog n 13 [.s l] h K := by
  obtain ⟨n, rfl⟩ := Nat.exists_eq_add_of_le' hn
  refine Ok.bd (K13 fun hbd => ?_)
  unfold F13
  refine runl_ok (n := n + 2) (by omega) hl (R := unE l) k 100000 0 [] h (by omega) (by omega) (by simp; omega) (But.refl _ _) ?_
  rw [List.drop_zero]
  cases unE l <;> rfl

theorem resl_ok {n : Nat} {s : Bs} (hl : s.length < 50000) {h : H} {K : V → H → Prop} (k : K (.s (esc s)) h) :
    ∀ (m i : Nat) (t : Bs), s.length - i < m → i ≤ s.length → t = esc (s.take i) →
      F15_9 pw (mkX Tryd.prog) (Ok Tryd.prog n) (fun v h => Bd h → K v h) m (.s s) (.s t) (.i .i64 i) h := by
  intro m
  induction m with
  | zero => intro i t hm; omega
  | succ m ih =>
    intro i t hm hi ht
    show pw.lg _ _ _ _
    rw [lg_s tt9 rfl, lt_i]
    by_cases hlt : i < s.length
    · rw [decide_eq_true (show (i : Int) < s.length by omega), cd_t]
      have hsp : s[i]? = some (s[i]'hlt) := List.getElem?_eq_getElem hlt
      have hlen := esc_len (s.take i)
      have hlt2 : (s.take i).length ≤ i := List.length_take_le ..
      rw [← ht] at hlen
      have nxt : ∀ {o : Bs}, escB (s[i]'hlt) = o → F15_17 pw (mkX Tryd.prog) (Ok Tryd.prog n) (fun v h => Bd h → K v h) (F15_9 pw (mkX Tryd.prog) (Ok Tryd.prog n) (fun v h => Bd h → K v h) m) (.s s) (.s (t ++ o)) (.i .i64 i) h := by
        intro o ho
        unfold F15_17
        rw [ad_64 (by omega), show (i : Int) + 1 = ((i + 1 : Nat) : Int) by omega]
        refine ih (i + 1) _ (by omega) (by omega) ?_
        rw [List.take_add_one, hsp, esc_app, ht, ← ho]
        simp [esc]
      have nxt' : ∀ {o : Bs}, o.length ≤ 6 → escB (s[i]'hlt) = o → pw.ad (mkX Tryd.prog) 9 (.s t) (.s o) fun v => F15_17 pw (mkX Tryd.prog) (Ok Tryd.prog n) (fun v h => Bd h → K v h) (F15_9 pw (mkX Tryd.prog) (Ok Tryd.prog n) (fun v h => Bd h → K v h) m) (.s s) v (.i .i64 i) h := by
        intro o h6 ho
        rw [ad_s (by omega)]
        exact nxt ho
      unfold F15_13
      simp only [c15]
      rw [ix_s tt9 rfl hsp]
      simp only [eq_i]
      have dT : ∀ k : Nat, k < 256 → s[i]'hlt = UInt8.ofNat k → decide ((((s[i]'hlt).toNat : Nat) : Int) = (k : Int)) = true := fun k hk e => decide_eq_true (by rw [(u8_eq hk).1 e])
      have dF : ∀ k : Nat, k < 256 → ¬ s[i]'hlt = UInt8.ofNat k → decide ((((s[i]'hlt).toNat : Nat) : Int) = (k : Int)) = false := fun k hk e => decide_eq_false fun e2 => e ((u8_eq hk).2 (by omega))
      by_cases h1 : s[i]'hlt = 38
      · rw [show decide ((((s[i]'hlt).toNat : Nat) : Int) = 38) = true from dT 38 (by decide) h1, cd_t]
        exact nxt' (by decide) (by rw [h1]; rfl)
      rw [show decide ((((s[i]'hlt).toNat : Nat) : Int) = 38) = false from dF 38 (by decide) h1, cd_f]
      by_cases h2 : s[i]'hlt = 60
      · rw [show decide ((((s[i]'hlt).toNat : Nat) : Int) = 60) = true from dT 60 (by decide) h2, cd_t]
        exact nxt' (by decide) (by rw [h2]; rfl)
      rw [show decide ((((s[i]'hlt).toNat : Nat) : Int) = 60) = false from dF 60 (by decide) h2, cd_f]
      by_cases h3 : s[i]'hlt = 62
      · rw [show decide ((((s[i]'hlt).toNat : Nat) : Int) = 62) = true from dT 62 (by decide) h3, cd_t]
        exact nxt' (by decide) (by rw [h3]; rfl)
      rw [show decide ((((s[i]'hlt).toNat : Nat) : Int) = 62) = false from dF 62 (by decide) h3, cd_f]
      by_cases h4 : s[i]'hlt = 34
      · rw [show decide ((((s[i]'hlt).toNat : Nat) : Int) = 34) = true from dT 34 (by decide) h4, cd_t]
        exact nxt' (by decide) (by rw [h4]; rfl)
      rw [show decide ((((s[i]'hlt).toNat : Nat) : Int) = 34) = false from dF 34 (by decide) h4, cd_f]
      by_cases h5 : s[i]'hlt = 39
      · rw [show decide ((((s[i]'hlt).toNat : Nat) : Int) = 39) = true from dT 39 (by decide) h5, cd_t]
        exact nxt' (by decide) (by rw [h5]; rfl)
      rw [show decide ((((s[i]'hlt).toNat : Nat) : Int) = 39) = false from dF 39 (by decide) h5, cd_f]
      rw [ad_64 (by omega), show (i : Int) + 1 = ((i + 1 : Nat) : Int) by omega, sc_s2 tt9 rfl (by omega) (by omega)]
      have e1 : (s.drop i).take (i + 1 - i) = [s[i]'hlt] := by
        rw [show i + 1 - i = 1 by omega, List.drop_eq_getElem_cons hlt]; rfl
      rw [e1]
      exact nxt' (by simp) (by simp only [escB, if_neg h1, if_neg h2, if_neg h3, if_neg h4, if_neg h5])
    · rw [decide_eq_false (show ¬ (i : Int) < s.length by omega), cd_f]
      rw [List.take_of_length_le (by omega)] at ht
      subst ht
      exact fun _ => k

/-- The reference's Escape: 'esc'. -/
theorem res_ok {n : Nat} (hn : 1 ≤ n) {h : H} {K : V → H → Prop} {l : Bs} (hl : l.length < 50000) (k : K (.s (esc l)) h) : Ok Tryd.prog n 15 [.s l] h K := by
  obtain ⟨n, rfl⟩ := Nat.exists_eq_add_of_le' hn
  refine Ok.bd (K15 fun hbd => ?_)
  unfold F15
  exact resl_ok hl k 100000 0 [] (by omega) (by omega) rfl

/-- XmlSigns, where 'awake' answers true. -/
theorem law_ok {n : Nat} (hn : 10 ≤ n) {s : Bs} {h : H} {K : V → H → Prop} (L : Low h) (aw : ∀ {K : V → H → Prop}, (∀ h', But h h' none → K (.b true) h') → Ok Tryd.prog n 9 [] h K)
    (k : ∀ h', But h h' none → K (.b true) h') : Ok Tryd.prog (n + 1) 4 [.s s] h K := by
  refine Ok.bd (K4 fun hbd => ?_)
  unfold F4
  rw [cf_k]
  refine aw fun h1 f1 => ?_
  simp only [nt_b, Bool.not_true, cd_f, F4_3]
  rw [lg_s tt9 rfl, gt_i]
  by_cases hl : 1500 < s.length
  · rw [decide_eq_true (show (1500 : Int) < s.length by omega), cd_t]
    exact fun _ => k h1 f1
  rw [decide_eq_false (show ¬ (1500 : Int) < s.length by omega), cd_f]
  unfold F4_5
  rw [cf_k]
  refine un_ok (by omega) (L.keep f1 (by simp)) (by omega) fun h2 f2 => ?_
  have f2 := f1.trans f2
  have hel := esc_len s
  cases hu : unE s with
  | none =>
    simp only [ex_t, List.getElem?_cons_zero, List.getElem?_cons_succ, oP_some, cf_k]
    refine run_ok (by omega) (by omega) fun h3 f3 => ?_
    have f3 := f2.trans f3
    rw [hu]
    simp only [RV, ex_t, List.getElem?_cons_zero, List.getElem?_cons_succ, oP_some, cf_k]
    refine es_ok (by omega) (by omega) fun h4 f4 => ?_
    have f4 := f3.trans f4
    refine un_ok (by omega) (L.keep f4 (by simp)) (by omega) fun h5 f5 => ?_
    have f5 := f4.trans f5
    rw [unE_esc]
    simp only [ex_t, List.getElem?_cons_zero, List.getElem?_cons_succ, oP_some, cf_k, eq_s, beq_self_eq_true, g1_t, eq_b tt4 rfl rfl rfl, pk_t]
    refine res_ok (by omega) (by omega) ?_
    simp only [eq_s, beq_self_eq_true, g1_t, pk_t]
    exact fun _ => k h5 f5
  | some o =>
    simp only [ex_t, List.getElem?_cons_zero, List.getElem?_cons_succ, oP_some, cf_k]
    refine run_ok (by omega) (by omega) fun h3 f3 => ?_
    have f3 := f2.trans f3
    rw [hu]
    simp only [RV, ex_t, List.getElem?_cons_zero, List.getElem?_cons_succ, oP_some, cf_k]
    refine es_ok (by omega) (by omega) fun h4 f4 => ?_
    have f4 := f3.trans f4
    refine un_ok (by omega) (L.keep f4 (by simp)) (by omega) fun h5 f5 => ?_
    have f5 := f4.trans f5
    rw [unE_esc]
    simp only [ex_t, List.getElem?_cons_zero, List.getElem?_cons_succ, oP_some, cf_k, eq_s, beq_self_eq_true, g1_t, eq_b tt4 rfl rfl rfl, pk_t]
    refine res_ok (by omega) (by omega) ?_
    simp only [eq_s, beq_self_eq_true, g1_t, pk_t]
    exact fun _ => k h5 f5
end Go.Proofs.YtbkhielalbbopaaDoor.Wb
