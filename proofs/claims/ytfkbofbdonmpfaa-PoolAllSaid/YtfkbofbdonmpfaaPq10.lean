/- As many as there are addresses get one each: the walk. -/
import Derived.Test.YtfkbofbdonmpfaaPq9
import Derived.Test.YtfkbofbdonmpfaaM3
set_option linter.unusedSimpArgs false
set_option linter.unusedVariables false
set_option linter.unusedSectionVars false
set_option linter.unnecessarySimpa false
set_option maxRecDepth 100000
namespace Go.Proofs.Ytfkbofbdonmpfaa.Wb
open Go.Am

theorem free_iff {e n : Nat} {a : Int} (h1 : 100 ≤ a) (h2 : a ≤ 99 + (n : Int)) : freeE 0 (lisG e n) a = decide (a = 100 + (e : Int)) := by
  obtain ⟨i, rfl⟩ : ∃ i : Nat, a = 100 + (i : Int) := ⟨(a - 100).toNat, by omega⟩
  rw [lisG_free (by omega)]
  by_cases c : i = e
  · rw [decide_eq_true c, decide_eq_true (by omega)]
  · rw [decide_eq_false c, decide_eq_false (by omega)]
theorem lisG_by {e n : Nat} {m : Int} (h : ∀ i : Nat, i < n → (i : Int) = m → i = e) : ∀ x ∈ lisG e n, isM 0 m x = false := fun x hx => by
  obtain ⟨i, hi, rfl⟩ := lisG_mem hx
  unfold isM gE
  by_cases c : (i : Int) = m
  · have := h i hi c
    simp [this]
  · simp [c]
theorem bl28 : blW xx 28 [] = some (.a zeV) := by simp only [blW, ti, tt28, tt5, placesArr, cellsOfV, fillA]; rfl

set_option maxHeartbeats 4000000 in
theorem pall_ok (aw : isTrue (run Try.prog 100000 99 39 []) = true) {n e : Int} (hn : -9223372036854775808 ≤ n ∧ n ≤ 9223372036854775807) : Ok Try.prog 100 14 [.i .i64 n, .i .i64 e] ⟨16, .l⟩ (fun v _ => v = .b true) := by
  refine K14 (n := 99) fun hbd => ?_
  simp (disch := omega) only [F14, cf_k]
  refine ok_true aw fun h1 hbd1 hb1 => ?_
  simp (disch := omega) only [ws, Bool.not_true, F14_4]
  by_cases c1 : n < 1
  · simp (disch := omega) only [ws, dec_t c1]
  by_cases c2 : 64 < n
  · simp (disch := omega) only [ws, dec_f c1, dec_t c2]
  by_cases c3 : e < 0
  · simp (disch := omega) only [ws, dec_f c1, dec_f c2, dec_t c3]
  by_cases c4 : n ≤ e
  · simp (disch := omega) only [ws, dec_f c1, dec_f c2, dec_f c3, dec_t c4]
  obtain ⟨n, rfl⟩ : ∃ k : Nat, n = k := ⟨n.toNat, by omega⟩
  obtain ⟨e, rfl⟩ : ∃ k : Nat, e = k := ⟨e.toNat, by omega⟩
  simp (disch := omega) only [ws, dec_f c1, dec_f c2, dec_f c3, dec_f c4, F14_7]
  refine at_ok (by omega) (by omega) fun h2 hbd2 hb2 => ?_
  try simp (disch := omega) only [ws]
  refine at_ok (by omega) (by omega) fun h3 hbd3 hb3 => ?_
  refine new_ok (by omega) (by omega) (by omega) fun r h4 hbd4 hb4 hr4 ht4 => ?_
  simp (disch := omega) only [ws, List.getElem?_cons_zero, List.getElem?_cons_succ, decide_true, Bool.not_true, F14_20]
  have t0 : timeP 0 0 = 0 := rfl
  have t60 : timeP 0 60 = 60 := rfl
  have t6060 : timeP 60 60 = 60 := rfl
  -- one is free again
  have last : ∀ (h5 : H) (c5 : Option Nat), Bd h5 → PL h5 r c5 100 (99 + (n : Int)) 0 (lisG e n) → F14_36 pw xx (Ok Try.prog 99) (fun v _ => v = .b true) (.i .i64 (n : Nat)) (.i .i64 (e : Nat)) (.p r 0) h5 := by
    intro h5 c5 hbd5 ht5
    have hll := lisG_len e n
    have r255 : ∀ x ∈ lisG e n, 0 ≤ x.l.a ∧ x.l.a ≤ 255 := fun x hx => by
      obtain ⟨i, hi, rfl⟩ := lisG_mem hx
      simp only [gE]; omega
    have only1 : ∀ a : Int, 100 ≤ a → a ≤ 99 + (n : Int) → freeE 0 (lisG e n) a = true → a = 100 + (e : Int) := fun a h1 h2 h3 => by
      rw [free_iff h1 h2] at h3; exact of_decide_eq_true h3
    have is1 : freeE 0 (lisG e n) (100 + (e : Int)) = true := by rw [free_iff (by omega) (by omega)]; exact decide_eq_true rfl
    simp (disch := omega) only [F14_36, cf_k]
    refine mac_ok (by omega) (by omega) fun h6 hbd6 hb6 => ?_
    refine bl_a bl28 ?_
    refine offer_ok (kt := (2, 0)) (by omega) (by rw [t0]; omega) (by omega) (by omega) (by rw [t0]; exact lisG_by fun i hi h => by omega) (fun a a1 a2 a3 => ?_) (ht5.keep hbd5 hb6) (fun h7 hbd7 hb7 ht7 hno => ?_) fun h7 a hbd7 hb7 ht7 q1 q2 q3 q4 => ?_
    · rw [t0] at a3
      obtain rfl := only1 a a1 a2 a3
      unfold rankE
      rw [lisG_d (by omega), lisG_fnd (by omega), if_neg (by omega)]
      simp only [gE, if_true]
      rw [if_neg (by omega)]
    · rw [t0] at hno
      have := hno (100 + (e : Int)) (by omega) (by omega)
      rw [is1] at this; cases this
    rw [t0] at q3 ht7
    obtain rfl := only1 a q1 q2 q3
    simp (disch := omega) only [ws, List.getElem?_cons_zero, List.getElem?_cons_succ]
    refine al_a tt28 fun q h8 hq hb8 hq1 hq2 => ?_
    refine sn_w (w := .a (adV (100 + (e : Int)))) (cs := adV (100 + (e : Int))) hq rfl rfl rfl rfl fun h9 hq9 hb9 => ?_
    have hb79 : But h7 h9 none := hb8.over hb9 (.inr fun y e => by cases e; exact hq1)
    have hbd9 := hb79.2.2 hbd7
    have ht9 := ht7.keep hbd7 hb79
    have hql : q < h9.next := Nat.lt_of_lt_of_le hq2 hb9.1
    have hqr : r ≠ q := by have := (ht7.lt hbd7).1; omega
    refine mac_ok (by omega) (by omega) fun h10 hbd10 hb10 => ?_
    refine bl_a bl28 ?_
    refine offer_ok (kt := (0, 0)) (by omega) (by rw [t0]; omega) (by omega) (by omega) (by rw [t0]; exact lisG_by fun i hi h => by omega) (fun a a1 a2 a3 => ?_) (ht9.keep hbd9 hb10) (fun h11 hbd11 hb11 ht11 hno => ?_) fun h11 a hbd11 hb11 ht11 p1 p2 p3 p4 => ?_
    · rw [t0] at a3
      obtain rfl := only1 a a1 a2 a3
      unfold rankE
      rw [lisG_d (by omega), lisG_fnd (by omega), if_neg (by omega)]
      simp only [gE, if_true]
    · rw [t0] at hno
      have := hno (100 + (e : Int)) (by omega) (by omega)
      rw [is1] at this; cases this
    rw [t0] at p3 ht11
    obtain rfl := only1 a p1 p2 p3
    simp (disch := omega) only [ws, List.getElem?_cons_zero, List.getElem?_cons_succ]
    refine al_a tt28 fun w h12 hw hb12 hw1 hw2 => ?_
    refine sn_w (w := .a (adV (100 + (e : Int)))) (cs := adV (100 + (e : Int))) hw rfl rfl rfl rfl fun h13 hw13 hb13 => ?_
    have hb1113 : But h11 h13 none := hb12.over hb13 (.inr fun y e => by cases e; exact hw1)
    have ht13 := ht11.keep hbd11 hb1113
    have hq11 := hb11.get (Nat.lt_of_lt_of_le hql hb10.1) (by intro e; cases e; exact hqr rfl) (hb10.get hql (by simp) hq9)
    have hq13 := hb1113.get (Nat.lt_of_lt_of_le hql (Nat.le_trans hb10.1 hb11.1)) (by simp) hq11
    have lq : ∀ κ : V → Prop, pw.ln 4 (.p q 0) h13 κ = κ (.a (adV (100 + (e : Int)))) := fun κ => by rw [ln_w (sz := 4) hq13 rfl]
    have lw : ∀ κ : V → Prop, pw.ln 4 (.p w 0) h13 κ = κ (.a (adV (100 + (e : Int)))) := fun κ => by rw [ln_w (sz := 4) hw13 rfl]
    have hbd13 := hb1113.2.2 hbd11
    simp (disch := omega) only [ws, lq, lw, decide_true]
    refine at_ok (by omega) (by omega) fun h14 hbd14 hb14 => ⟨fun z hz => hb14.2.1 z hz (by simp), ?_⟩
    simp (disch := omega) only [ws, lq, lw, eqa_ok, decide_true]
    refine all_ok (by omega) (by omega) r255 (lisG_pw _ _) (ht13.keep hbd13 hb14) fun h15 l1 hbd15 hb15 ht15 hl1 _ => ?_
    rw [t0] at ht15 hl1
    have el := lisG_all0 (e := e) (k := n) (by omega)
    simp (disch := omega) only [vece_len tt89 rfl hl1, el, ws]
    rw [dec_t (show ((n - 1 : Nat) : Int) = (n : Int) - 1 by omega)]
    simp (disch := omega) only [ws]
    refine all_ok (by omega) (by omega) r255 (lisG_pw _ _) ht15 fun h16 l2 hbd16 hb16 ht16 hl2 _ => ?_
    rw [t60, lisG_all60] at hl2
    rw [t60] at ht16
    simp (disch := omega) only [vece_len tt89 rfl hl2, List.length_nil, ws]
    rw [dec_t (show ((0 : Nat) : Int) = 0 from rfl)]
    simp (disch := omega) only [ws]
    refine tick_ok (by omega) (by omega) r255 (lisG_pw _ _) ht16 fun h17 l3 hbd17 hb17 ht17 hl3 _ => ?_
    rw [t6060] at hl3
    have et := lisG_tick e n
    simp (disch := omega) only [vece_len tt89 rfl hl3, et, ws, decide_true]
  have loop : ∀ (fuel k : Nat) (h5 : H) (c5 : Option Nat), n < fuel + k → k ≤ n → Bd h5 → PL h5 r c5 100 (99 + (n : Int)) 0 (lisG 1000 k) → F14_148 pw xx (Ok Try.prog 99) (fun v _ => v = .b true) fuel (.i .i64 (n : Nat)) (.i .i64 (e : Nat)) (.p r 0) (.i .i64 (k : Nat)) h5 := by
    intro fuel
    induction fuel with
    | zero => intro k h5 c5 a1 a2; omega
    | succ fuel ih =>
      intro k h5 c5 a1 a2 hbd5 ht5
      have hll := lisG_len 1000 k
      rw [S14_148]
      by_cases hlt : k < n
      · simp (disch := omega) only [ws, dec_t, F14_153]
        have fr : ∀ a : Int, 100 ≤ a → freeE 0 (lisG 1000 k) a = true → 100 + (k : Int) ≤ a := fun a h1 h2 => by
          refine Classical.byContradiction fun h3 => ?_
          rw [free_iff h1 (by omega), decide_eq_true_iff] at h2
          omega
        have frk : freeE 0 (lisG 1000 k) (100 + (k : Int)) = true := lisG_freen (.inr (Int.le_refl _))
        refine mac_ok (by omega) (by omega) fun h6 hbd6 hb6 => ?_
        refine bl_a bl28 ?_
        refine offer_ok (kt := (1, 0)) (by omega) (by rw [t0]; omega) (by omega) (by omega) (by rw [t0]; exact lisG_by fun i hi h => by omega) (fun a a1 a2 a3 => ?_) (ht5.keep hbd5 hb6) (fun h7 hbd7 hb7 ht7 hno => ?_) fun h7 a hbd7 hb7 ht7 q1 q2 q3 q4 => ?_
        · rw [t0] at a3
          exact lisG_rank (.inr (fr a a1 a3))
        · rw [t0] at hno
          have := hno (100 + (k : Int)) (by omega) (by omega)
          rw [frk] at this; cases this
        rw [t0] at q3 q4 ht7
        obtain rfl : a = 100 + (k : Int) := by
          have h1 := fr a q1 q3
          refine Classical.byContradiction fun h2 => ?_
          have := q4 (100 + (k : Int)) (by omega) (by omega)
          rw [frk] at this; cases this
        simp (disch := omega) only [ws, List.getElem?_cons_zero, List.getElem?_cons_succ]
        refine al_a tt28 fun q h8 hq hb8 hq1 hq2 => ?_
        refine sn_w (w := .a (adV (100 + (k : Int)))) (cs := adV (100 + (k : Int))) hq rfl rfl rfl rfl fun h9 hq9 hb9 => ?_
        have hb79 : But h7 h9 none := hb8.over hb9 (.inr fun y e => by cases e; exact hq1)
        have hbd9 := hb79.2.2 hbd7
        have ht9 := ht7.keep hbd7 hb79
        have lq : ∀ κ : V → Prop, pw.ln 4 (.p q 0) h9 κ = κ (.a (adV (100 + (k : Int)))) := fun κ => by rw [ln_w (sz := 4) hq9 rfl]
        simp (disch := omega) only [ws, lq, decide_true, Bool.not_true]
        refine at_ok (by omega) (by omega) fun h10 hbd10 hb10 => ⟨fun z hz => hb10.2.1 z hz (by simp), ?_⟩
        simp (disch := omega) only [ws, lq, nea_ok, decide_true, Bool.not_true]
        refine mac_ok (by omega) (by omega) fun h11 hbd11 hb11 => ⟨fun z hz => hb11.2.1 z hz (by simp), ?_⟩
        simp (disch := omega) only [ws, lq]
        refine take_ok (by omega) (by rw [t0]; omega) (by omega) (by omega) (by omega) (by omega) (fun x hx => ?_) (ht9.keep hbd9 (hb10.trans hb11)) fun h12 c12 hbd12 ht12 hc12 hb12 => ?_
        · obtain ⟨i, hi, rfl⟩ := lisG_mem hx
          simp only [gE]
          exact ⟨by omega, by omega⟩
        rw [t0, ← lisG_succ (by omega)] at ht12
        simp (disch := omega) only [ws, decide_true, Bool.not_true, F14_158]
        exact ih (k + 1) h12 c12 (by omega) (by omega) hbd12 ht12
      · obtain rfl : k = n := by omega
        simp (disch := omega) only [ws, dec_f, F14_24]
        have none1 : ∀ a : Int, 100 ≤ a → a ≤ 99 + (k : Int) → freeE 0 (lisG 1000 k) a = false := fun a h1 h2 => by
          rw [free_iff h1 h2]; exact decide_eq_false (by omega)
        refine mac_ok (by omega) (by omega) fun h6 hbd6 hb6 => ?_
        refine bl_a bl28 ?_
        refine offer_ok (kt := (0, 0)) (by omega) (by rw [t0]; omega) (by omega) (by omega) (by rw [t0]; exact lisG_by fun i hi h => by omega) (fun a a1 a2 a3 => ?_) (ht5.keep hbd5 hb6) (fun h7 hbd7 hb7 ht7 hno => ?_) fun h7 a hbd7 hb7 ht7 q1 q2 q3 q4 => ?_
        · rw [t0, none1 a a1 a2] at a3; cases a3
        rotate_left
        · rw [t0, none1 a q1 q2] at q3; cases q3
        rw [t0] at ht7
        simp (disch := omega) only [ws, List.getElem?_cons_zero, List.getElem?_cons_succ, decide_true, Bool.not_true]
        refine mac_ok (by omega) (by omega) fun h8 hbd8 hb8 => ?_
        try simp (disch := omega) only [ws]
        refine at_ok (by omega) (by omega) fun h9 hbd9 hb9 => ?_
        try simp (disch := omega) only [ws]
        refine end_ok (by omega) (j := e) (by omega) (by omega) (lisG_fnd (by omega)) (by rw [lisG_get]; rfl) (ht7.keep hbd7 (hb8.trans hb9)) fun h10 hbd10 hb10 ht10 => ?_
        rw [lisG_get, lisG_set (by omega) (by omega)] at ht10
        simp (disch := omega) only [ws, Bool.not_true]
        exact last h10 c5 hbd10 ht10
  exact loop 100000 0 h4 none (by omega) (by omega) hbd4 ht4
end Go.Proofs.Ytfkbofbdonmpfaa.Wb
