/- The reference: what stands for a name. -/
import Derived.Test.YtbkhielalbbopaaGreatDoorRb4
set_option linter.unusedSimpArgs false
set_option linter.unusedVariables false
set_option linter.unusedSectionVars false
set_option linter.unnecessarySimpa false
set_option maxRecDepth 100000
namespace Go.Proofs.YtbkhielalbbopaaGreatDoor.Wb
open Go Go.Am Go.Am.Xm
def sgR : Bs → Option Bs
 | [] => none
 | a :: l => if a = 35 then num l else none
theorem sgn_rest {s : Bs} (n1 : ¬ s = [97, 109, 112]) (n2 : ¬ s = [108, 116]) (n3 : ¬ s = [103, 116]) (n4 : ¬ s = [113, 117, 111, 116]) (n5 : ¬ s = [97, 112, 111, 115]) : sgn s = sgR s := by
 simp only [sgn, if_neg n1, if_neg n2, if_neg n3, if_neg n4, if_neg n5]
 cases s <;> rfl
abbrev RV (R : Option Bs) : V := match R with | some o => .t [.s o, .b true] | none => .t [.s [], .b false]
theorem rng {t : TypeId} {kd : IntKind} {b lo hi : Int} {h : H} {R : V → H → Prop} (k : R (.b (decide (lo ≤ b) && decide (b ≤ hi))) h) :
  pw.ge (mkX Tryz.prog) t (.i kd b) (.i kd lo) fun v80 => pw.g1 v80 (fun κ => κ (.i kd b) h) h fun v83 h83 => pw.g1 v80 (fun κ => pw.le (mkX Tryz.prog) t v83 (.i kd hi) fun v84 => κ v84 h83) h83 fun v85 h85 => pw.pk v80 v85 (.b false) fun v86 => R v86 h85 := by
 rw [ge_i]
 cases e1 : decide (lo ≤ b) <;> rw [e1] at k
 ·simp only [g1_f, pk_f]
  exact k
 ·simp only [g1_t, le_i, pk_t]
  exact k
theorem rdig_ok {n : Nat} {s : Bs} {i : Nat} {base z : Int} {c : UInt8} {h : H} {K : V → H → Prop} {it : V → V → V → V → H → Prop} (hc : s[i]? = some c)
  (k : F121_52 pw (mkX Tryz.prog) (Ok Tryz.prog n) K it (.s s) (.i .i64 base) (.i .i64 z) (.i .i64 i) (.i .i64 (dig c : Nat)) h) :
  F121_38 pw (mkX Tryz.prog) (Ok Tryz.prog n) K it (.s s) (.i .i64 base) (.i .i64 z) (.i .i64 i) h := by
 unfold F121_38
 rw [ix_s tt9 rfl hc]
 refine rng ?_
 by_cases c1 : 48 ≤ c.toNat ∧ c.toNat ≤ 57
 ·rw [decide_eq_true (show (48 : Int) ≤ c.toNat by omega), decide_eq_true (show (c.toNat : Int) ≤ 57 by omega), Bool.and_true, cd_t, sb_u8 (by omega), ci_64 (by omega)]
  have : ((dig c : Nat) : Int) = (c.toNat : Int) - 48 := by simp only [dig, if_pos c1]; omega
  rw [this] at k
  exact k
 rw [show (decide ((48 : Int) ≤ c.toNat) && decide ((c.toNat : Int) ≤ 57)) = false by rw [Bool.eq_false_iff]; intro e; rw [Bool.and_eq_true, decide_eq_true_eq, decide_eq_true_eq] at e; omega, cd_f]
 refine rng ?_
 by_cases c2 : 97 ≤ c.toNat ∧ c.toNat ≤ 102
 ·rw [decide_eq_true (show (97 : Int) ≤ c.toNat by omega), decide_eq_true (show (c.toNat : Int) ≤ 102 by omega), Bool.and_true, cd_t, sb_u8 (by omega), ci_64 (by omega), ad_64 (by omega)]
  have : ((dig c : Nat) : Int) = (c.toNat : Int) - 97 + 10 := by simp only [dig, if_neg c1, if_pos c2]; omega
  rw [this] at k
  exact k
 rw [show (decide ((97 : Int) ≤ c.toNat) && decide ((c.toNat : Int) ≤ 102)) = false by rw [Bool.eq_false_iff]; intro e; rw [Bool.and_eq_true, decide_eq_true_eq, decide_eq_true_eq] at e; omega, cd_f]
 refine rng ?_
 by_cases c3 : 65 ≤ c.toNat ∧ c.toNat ≤ 70
 ·rw [decide_eq_true (show (65 : Int) ≤ c.toNat by omega), decide_eq_true (show (c.toNat : Int) ≤ 70 by omega), Bool.and_true, cd_t, sb_u8 (by omega), ci_64 (by omega), ad_64 (by omega)]
  have : ((dig c : Nat) : Int) = (c.toNat : Int) - 65 + 10 := by simp only [dig, if_neg c1, if_neg c2, if_pos c3]; omega
  rw [this] at k
  exact k
 rw [show (decide ((65 : Int) ≤ c.toNat) && decide ((c.toNat : Int) ≤ 70)) = false by rw [Bool.eq_false_iff]; intro e; rw [Bool.and_eq_true, decide_eq_true_eq, decide_eq_true_eq] at e; omega, cd_f]
 have : ((dig c : Nat) : Int) = 99 := by simp only [dig, if_neg c1, if_neg c2, if_neg c3]; rfl
 rw [this] at k
 exact k
theorem rend_ok {n : Nat} (hn : 1 ≤ n) {z : Nat} {h : H} {K : V → H → Prop}
  (k : ∀ h', But h h' none → K (RV (if mayN z = true then some (Utf8.encode (z : Int)).data.toList else none)) h') :
  F121_19 pw (mkX Tryz.prog) (Ok Tryz.prog n) (fun v h => Bd h → K v h) (.i .i64 z) h := by
 unfold F121_19
 rw [cf_k]
 refine rmay_ok hn ?_
 cases hm : mayN z with
 | false =>
  simp only [nt_b, Bool.not_false, cd_t]
  have := k h (But.refl _ _)
  rw [hm, if_neg (by decide)] at this
  exact fun _ => this
 | true =>
  simp only [nt_b, Bool.not_true, cd_f, F121_21]
  rw [cf_k]
  have hz : z ≤ 1114111 := by
   rw [mayN_eq] at hm
   simp only [Bool.and_eq_true, Bool.not_eq_true', decide_eq_false_iff_not] at hm
   omega
  refine put_ok hn hz fun h' f => ?_
  have := k h' f
  rw [hm, if_pos rfl, enc4_eq hm] at this
  exact fun _ => this
theorem rnum_ok {n : Nat} (hn : 1 ≤ n) {s : Bs} {base : Nat} (hb : base = 10 ∨ base = 16) (hl : s.length ≤ 8) {h : H} {K : V → H → Prop} {R : Option Bs}
  (k : ∀ h', But h h' none → K (RV R) h') :
  ∀ (m i z : Nat), s.length - i < m → i ≤ s.length → z < 16 ^ i → (match numV base z (s.drop i) with | none => none | some n => if mayN n = true then some (Utf8.encode (n : Int)).data.toList else none) = R →
   F121_33 pw (mkX Tryz.prog) (Ok Tryz.prog n) (fun v h => Bd h → K v h) m (.s s) (.i .i64 base) (.i .i64 z) (.i .i64 i) h := by
 intro m
 induction m with
 | zero => intro i z hm; omega
 | succ m ih =>
  intro i z hm hi hz hR
  show pw.lg _ _ _ _
  rw [lg_s tt9 rfl, lt_i]
  have hp : 16 ^ i ≤ 16 ^ 8 := Nat.pow_le_pow_right (by decide) (by omega)
  have h8 : 16 ^ 8 = 4294967296 := by decide
  by_cases hlt : i < s.length
  ·rw [decide_eq_true (show (i : Int) < s.length by omega), cd_t]
   have hsp : s[i]? = some (s[i]'hlt) := List.getElem?_eq_getElem hlt
   refine rdig_ok hsp ?_
   unfold F121_52
   rw [List.drop_eq_getElem_cons hlt] at hR
   simp only [numV] at hR
   rw [ge_i]
   by_cases hd : dig (s[i]'hlt) < base
   ·rw [if_pos hd] at hR
    rw [decide_eq_false (show ¬ ((base : Nat) : Int) ≤ (dig (s[i]'hlt) : Nat) by omega), cd_f]
    unfold F121_58 F121_43
    have hmul : z * base ≤ z * 16 := Nat.mul_le_mul_left z (by omega)
    have e : (z : Int) * (base : Int) = ((z * base : Nat) : Int) := by push_cast; rfl
    have hp2 : 16 ^ (i + 1) = 16 ^ i * 16 := Nat.pow_succ ..
    rw [mu_64 (by rw [e]; omega), e, ad_64 (by omega), ad_64 (by omega)]
    have e2 : ((z * base : Nat) : Int) + (dig (s[i]'hlt) : Nat) = ((z * base + dig (s[i]'hlt) : Nat) : Int) := by omega
    rw [e2, show (i : Int) + 1 = ((i + 1 : Nat) : Int) by omega]
    exact ih (i + 1) _ (by omega) (by omega) (by rw [hp2]; omega) hR
   ·rw [if_neg hd] at hR
    rw [decide_eq_true (show ((base : Nat) : Int) ≤ (dig (s[i]'hlt) : Nat) by omega), cd_t]
    have := k h (But.refl _ _)
    rw [← hR] at this
    exact fun _ => this
  ·rw [decide_eq_false (show ¬ (i : Int) < s.length by omega), cd_f]
   rw [List.drop_eq_nil_of_le (by omega)] at hR
   simp only [numV] at hR
   exact rend_ok hn (by rw [hR]; exact k)
theorem rnumB_ok {n : Nat} (hn : 1 ≤ n) {s : Bs} {base : Nat} (hb : base = 10 ∨ base = 16) {h : H} {K : V → H → Prop}
  (k : ∀ h', But h h' none → K (RV (numB s base)) h') : F121_12 pw (mkX Tryz.prog) (Ok Tryz.prog n) (fun v h => Bd h → K v h) (.s s) (.i .i64 base) h := by
 unfold F121_12
 rw [lg_s tt9 rfl, lt_i]
 by_cases h1 : s.length < 1
 ·rw [decide_eq_true (show (s.length : Int) < 1 by omega)]
  simp only [g0_t, pk_t, cd_t]
  have := k h (But.refl _ _)
  rw [numB, if_pos (by omega)] at this
  exact fun _ => this
 ·rw [decide_eq_false (show ¬ (s.length : Int) < 1 by omega)]
  simp only [g0_f]
  rw [lg_s tt9 rfl, gt_i]
  by_cases h2 : 8 < s.length
  ·rw [decide_eq_true (show (8 : Int) < s.length by omega), pk_f, cd_t]
   have := k h (But.refl _ _)
   rw [numB, if_pos (by omega)] at this
   exact fun _ => this
  ·rw [decide_eq_false (show ¬ (8 : Int) < s.length by omega), pk_f, cd_f]
   rw [numB, if_neg (by omega)] at k
   unfold F121_15
   exact rnum_ok hn hb (by omega) k 100000 0 0 (by omega) (by omega) (by decide) rfl
theorem rsign_ok {n : Nat} (hn : 2 ≤ n) {s : Bs} {h : H} {K : V → H → Prop}
  (k : ∀ h', But h h' none → K (RV (sgn s)) h') : Ok Tryz.prog n 121 [.s s] h K := by
 obtain ⟨n, rfl⟩ := Nat.exists_eq_add_of_le' hn
 refine Ok.bd (K121 fun hbd => ?_)
 unfold F121
 simp only [c121, eq_s]
 have fin : ∀ {p o : Bs} {A : Prop}, (s = p → sgn s = some o) → (¬ s = p → A) → pw.cd (.b (s == p)) (Bd h → K (.t [.s o, .b true]) h) A := by
  intro p o A h1 h2
  by_cases e : s = p
  ·rw [show (s == p) = true by rw [e]; simp]
   simp only [cd_t]
   intro _
   have := k h (But.refl _ _)
   rw [h1 e] at this
   exact this
  ·rw [show (s == p) = false by simpa using e]
   simp only [cd_f]
   exact h2 e
 refine fin (fun e => by rw [e]; rfl) fun n2 => ?_
 refine fin (fun e => by rw [e]; rfl) fun n3 => ?_
 refine fin (fun e => by rw [e]; rfl) fun n1 => ?_
 refine fin (fun e => by rw [e]; rfl) fun n4 => ?_
 refine fin (fun e => by rw [e]; rfl) fun n5 => ?_
 rw [sgn_rest n1 n2 n3 n4 n5] at k
 clear fin n1 n2 n3 n4 n5
 unfold F121_4
 rw [lg_s tt9 rfl, lt_i]
 have none_ : (∀ h', But h h' none → K (RV none) h') → Bd h → K (.t [.s [], .b false]) h := fun k _ => k h (But.refl _ _)
 match s, k with
 | [], k =>
  rw [decide_eq_true (show ((([] : Bs).length : Nat) : Int) < 2 by decide)]
  simp only [g0_t, pk_t, cd_t]
  exact none_ k
 | [a], k =>
  have k' : ∀ h', But h h' none → K (RV none) h' := by
   intro h' f
   have := k h' f
   simp only [sgR, num, ite_self] at this
   exact this
  rw [decide_eq_true (show ((([a] : Bs).length : Nat) : Int) < 2 by rw [List.length_singleton]; decide)]
  simp only [g0_t, pk_t, cd_t]
  exact none_ k'
 | a :: b :: l, k =>
  rw [decide_eq_false (show ¬ (((a :: b :: l).length : Nat) : Int) < 2 by simp only [List.length_cons]; omega)]
  simp only [g0_f]
  rw [show pw.ix (mkX Tryz.prog) 9 (.s (a :: b :: l)) (.i .i64 0) = fun κ => κ (.i .u8 a.toNat) from funext fun κ => ix_s tt9 rfl (n := 0) rfl]
  simp only [ne_i, pk_f]
  by_cases ha : a = 35
  ·have : decide (((a.toNat : Nat) : Int) = 35) = true := by rw [ha]; rfl
   rw [this, Bool.not_true, cd_f]
   simp only [sgR, if_pos ha] at k
   unfold F121_6
   rw [show pw.sc (mkX Tryz.prog) 9 (.s (a :: b :: l)) (some (.i .i64 1)) none none = fun κ => κ (.s (b :: l)) from funext fun κ => sc_s1 tt9 rfl (n := 1) (by simp)]
   dsimp only
   rw [show pw.ix (mkX Tryz.prog) 9 (.s (b :: l)) (.i .i64 0) = fun κ => κ (.i .u8 b.toNat) from funext fun κ => ix_s tt9 rfl (n := 0) rfl]
   simp only [eq_i]
   by_cases hb : b = 120
   ·have : decide (((b.toNat : Nat) : Int) = 120) = true := by rw [hb]; rfl
    rw [this, cd_t, show pw.sc (mkX Tryz.prog) 9 (.s (b :: l)) (some (.i .i64 1)) none none = fun κ => κ (.s l) from funext fun κ => sc_s1 tt9 rfl (n := 1) (by simp)]
    refine rnumB_ok (base := 16) (by omega) (.inr rfl) fun h' f => ?_
    have := k h' f
    simp only [num, if_pos hb] at this
    exact this
   ·have : decide (((b.toNat : Nat) : Int) = 120) = false := decide_eq_false fun e => hb ((u8_eq (n := 120) (by decide)).2 (by omega))
    rw [this, cd_f]
    refine rnumB_ok (base := 10) (by omega) (.inl rfl) fun h' f => ?_
    have := k h' f
    simp only [num, if_neg hb] at this
    exact this
  ·have : decide (((a.toNat : Nat) : Int) = 35) = false := decide_eq_false fun e => ha ((u8_eq (n := 35) (by decide)).2 (by omega))
   rw [this, Bool.not_false, cd_t]
   simp only [sgR, if_neg ha] at k
   exact none_ k
end Go.Proofs.YtbkhielalbbopaaGreatDoor.Wb

set_option maxRecDepth 100000
namespace Go.Am.Xm
theorem cut1_no {c : UInt8} : ∀ {l : Bs}, c ∉ l → cut1 c l = none
 | [], _ => rfl
 | a :: l, h => by
  have ha : a ≠ c := fun e => h (e ▸ List.mem_cons_self ..)
  simp only [cut1, if_neg ha, cut1_no fun hm => h (List.mem_cons_of_mem _ hm)]
theorem unE_far {d : Bs} (h : ∀ nm r, cut1 59 d = some (nm, r) → sgn nm = none) : unE (38 :: d) = none := by
 cases e : cut1 59 d with
 | none => exact unE_amp_none e
 | some p => rw [unE_amp e, h _ _ e]
end Go.Am.Xm
namespace Go.Proofs.YtbkhielalbbopaaGreatDoor.Wb
open Go Go.Am Go.Am.Xm
theorem rin_ok {n : Nat} {s t : Bs} {i : Nat} (hl : s.length < 50000) {h : H} {K : V → H → Prop} {it : V → V → V → H → Prop}
  (kk : ∀ k, i + 1 ≤ k → k ≤ s.length → k ≤ i + 12 → (∀ j, i + 1 ≤ j → j < k → s[j]? ≠ some 59) → (k = s.length ∨ s[k]? = some 59 ∨ k = i + 12) → F94_33 pw (mkX Tryz.prog) (Ok Tryz.prog n) K it (.s s) (.s t) (.i .i64 i) (.i .i64 k) h) :
  ∀ (m k : Nat), i + 12 - k < m → i + 1 ≤ k → k ≤ s.length → k ≤ i + 12 → (∀ j, i + 1 ≤ j → j < k → s[j]? ≠ some 59) →
   F94_85 pw (mkX Tryz.prog) (Ok Tryz.prog n) K it m (.s s) (.s t) (.i .i64 i) (.i .i64 k) h := by
 intro m
 induction m with
 | zero => intro k hm; omega
 | succ m ih =>
  intro k hm h1 h2 h3 h4
  show pw.lg _ _ _ _
  rw [lg_s tt9 rfl, lt_i]
  by_cases hk : k < s.length
  ·rw [decide_eq_true (show (k : Int) < s.length by omega)]
   have hsp : s[k]? = some (s[k]'hk) := List.getElem?_eq_getElem hk
   simp only [g1_t]
   rw [show pw.ix (mkX Tryz.prog) 9 (.s s) (.i .i64 k) = fun κ => κ (.i .u8 (s[k]'hk).toNat) from funext fun κ => ix_s tt9 rfl hsp]
   simp only [ne_i, pk_t]
   by_cases hc : s[k]'hk = 59
   ·have : decide (((s[k]'hk).toNat : Int) = 59) = true := by rw [hc]; rfl
    rw [this]
    simp only [Bool.not_true, g1_f, pk_f, cd_f]
    exact kk k h1 h2 h3 h4 (.inr (.inl (by rw [hsp, hc])))
   ·have : decide (((s[k]'hk).toNat : Int) = 59) = false := decide_eq_false fun e => hc ((u8_eq (n := 59) (by decide)).2 (by omega))
    rw [this]
    simp only [Bool.not_false, g1_t, pk_t]
    rw [ad_64 (by omega), lt_i]
    by_cases h5 : k < i + 12
    ·rw [decide_eq_true (show (k : Int) < (i : Int) + 12 by omega), cd_t]
     unfold F94_90
     rw [ad_64 (by omega), show (k : Int) + 1 = ((k + 1 : Nat) : Int) by omega]
     refine ih (k + 1) (by omega) (by omega) (by omega) (by omega) fun j hj1 hj2 => ?_
     by_cases e : j = k
     ·subst e
      rw [hsp]
      intro e
      exact hc (Option.some.inj e)
     ·exact h4 j hj1 (by omega)
    ·rw [decide_eq_false (show ¬ (k : Int) < (i : Int) + 12 by omega), cd_f]
     exact kk k h1 h2 h3 h4 (.inr (.inr (by omega)))
  ·rw [decide_eq_false (show ¬ (k : Int) < s.length by omega)]
   simp only [g1_f, pk_f, cd_f]
   exact kk k h1 h2 h3 h4 (.inl (by omega))
theorem runl_ok {n : Nat} (hn : 2 ≤ n) {s : Bs} (hl : s.length < 50000) {hS : H} {K : V → H → Prop} {R : Option Bs}
  (k : ∀ h', But hS h' none → K (RV R) h') :
  ∀ (m i : Nat) (t : Bs) (h : H), s.length - i < m → i ≤ s.length → t.length + 4 * (s.length - i) ≤ 1000000 → But hS h none → (unE (s.drop i)).map (t ++ ·) = R →
   F94_11 pw (mkX Tryz.prog) (Ok Tryz.prog n) (fun v h => Bd h → K v h) m (.s s) (.s t) (.i .i64 i) h := by
 intro m
 induction m with
 | zero => intro i t h hm; omega
 | succ m ih =>
  intro i t h hm hi ht f hR
  show pw.lg _ _ _ _
  rw [lg_s tt9 rfl, lt_i]
  by_cases hlt : i < s.length
  ·rw [decide_eq_true (show (i : Int) < s.length by omega), cd_t]
   have hsp : s[i]? = some (s[i]'hlt) := List.getElem?_eq_getElem hlt
   unfold F94_15
   rw [ix_s tt9 rfl hsp, ne_i]
   rw [List.drop_eq_getElem_cons hlt] at hR
   by_cases hc : s[i]'hlt = 38
   ·have : decide (((s[i]'hlt).toNat : Int) = 38) = true := by rw [hc]; rfl
    rw [this, Bool.not_true, cd_f]
    rw [hc] at hR
    unfold F94_26
    rw [ad_64 (by omega), show (i : Int) + 1 = ((i + 1 : Nat) : Int) by omega]
    have non : unE (38 :: s.drop (i + 1)) = none → ∀ h', But hS h' none → K (RV none) h' := by
     intro e
     rw [e] at hR
     rw [← hR] at k
     exact k
    have hget : ∀ j, (s.drop (i + 1))[j]? = s[i + 1 + j]? := fun j => by rw [List.getElem?_drop]
    refine rin_ok hl (fun q h1 h2 h3 h4 h5 => ?_) 100000 (i + 1) (by omega) (Nat.le_refl _) (by omega) (by omega) (fun j h1 h2 => by omega)
    unfold F94_33
    rw [lg_s tt9 rfl, ge_i]
    by_cases hq : q = s.length
    ·rw [decide_eq_true (show (s.length : Int) ≤ q by omega)]
     simp only [g0_t, pk_t, cd_t]
     refine fun _ => non (unE_amp_none (cut1_no fun hm => ?_)) h f
     obtain ⟨j, hj, e⟩ := List.getElem_of_mem hm
     have := hget j
     rw [List.getElem?_eq_getElem hj, e] at this
     rw [List.length_drop] at hj
     exact h4 (i + 1 + j) (by omega) (by omega) this.symm
    ·have hq' : q < s.length := by omega
     rw [decide_eq_false (show ¬ (s.length : Int) ≤ q by omega)]
     have hsq : s[q]? = some (s[q]'hq') := List.getElem?_eq_getElem hq'
     simp only [g0_f]
     rw [show pw.ix (mkX Tryz.prog) 9 (.s s) (.i .i64 q) = fun κ => κ (.i .u8 (s[q]'hq').toNat) from funext fun κ => ix_s tt9 rfl hsq]
     simp only [ne_i, pk_f]
     by_cases h59 : s[q]'hq' = 59
     ·have : decide (((s[q]'hq').toNat : Int) = 59) = true := by rw [h59]; rfl
      rw [this, Bool.not_true, cd_f]
      have hcut : cut1 59 (s.drop (i + 1)) = some ((s.drop (i + 1)).take (q - (i + 1)), s.drop (q + 1)) := by
       have e : s.drop (i + 1) = (s.drop (i + 1)).take (q - (i + 1)) ++ 59 :: s.drop (q + 1) := by
        rw [← h59, ← List.drop_eq_getElem_cons hq']
        have := List.take_append_drop (q - (i + 1)) (s.drop (i + 1))
        rw [List.drop_drop, show i + 1 + (q - (i + 1)) = q by omega] at this
        exact this.symm
       have hno : (59 : UInt8) ∉ (s.drop (i + 1)).take (q - (i + 1)) := by
        intro hm
        obtain ⟨j, hj, e⟩ := List.getElem_of_mem hm
        have hj' : j < q - (i + 1) := by rw [List.length_take] at hj; omega
        have e2 : (s.drop (i + 1))[j]? = some 59 := by
         rw [← e, List.getElem_take]
         exact List.getElem?_eq_getElem _
        rw [hget] at e2
        exact h4 (i + 1 + j) (by omega) (by omega) e2
       have := cut1_mk (t := s.drop (q + 1)) hno
       rw [← e] at this
       exact this
      rw [unE_amp hcut] at hR
      unfold F94_38
      rw [ad_64 (by omega), show (i : Int) + 1 = ((i + 1 : Nat) : Int) by omega, sc_s2 tt9 rfl h1 (by omega), cf_k]
      refine rsign_ok hn fun h' f' => ?_
      cases hs : sgn ((s.drop (i + 1)).take (q - (i + 1))) with
      | none =>
       rw [hs] at hR
       simp only [RV, ex_t, List.getElem?_cons_zero, List.getElem?_cons_succ, oP_some, nt_b, Bool.not_false, cd_t]
       have := k h' (f.trans f')
       rw [← hR] at this
       exact fun _ => this
      | some o =>
       rw [hs] at hR
       have ho := sgn_four hs
       simp only [RV, ex_t, List.getElem?_cons_zero, List.getElem?_cons_succ, oP_some, nt_b, Bool.not_true, cd_f]
       unfold F94_54
       rw [ad_s (by omega)]
       unfold F94_19
       rw [ad_64 (by omega), show (q : Int) + 1 = ((q + 1 : Nat) : Int) by omega]
       refine ih (q + 1) _ h' (by omega) (by omega) (by rw [List.length_append]; omega) (f.trans f') ?_
       rw [← hR]
       simp only [Option.map_map]
       congr 1
       funext u
       simp
     ·have : decide (((s[q]'hq').toNat : Int) = 59) = false := decide_eq_false fun e => h59 ((u8_eq (n := 59) (by decide)).2 (by omega))
      rw [this, Bool.not_false, cd_t]
      have hq12 : q = i + 12 := by
       rcases h5 with h5 | h5 | h5
       ·exact absurd h5 hq
       ·rw [hsq] at h5; exact absurd (Option.some.inj h5) h59
       ·exact h5
      refine fun _ => non (unE_far fun nm r e => ?_) h f
      cases hs : sgn nm with
      | none => rfl
      | some o =>
       have hlen := sgn_len hs
       have e2 := (cut1_some e).1
       have e3 : (s.drop (i + 1))[nm.length]? = some 59 := by
        rw [e2, List.getElem?_append_right (Nat.le_refl _), Nat.sub_self]; rfl
       rw [hget] at e3
       exact absurd e3 (h4 _ (by omega) (by omega))
   ·have : decide (((s[i]'hlt).toNat : Int) = 38) = false := decide_eq_false fun e => hc ((u8_eq (n := 38) (by decide)).2 (by omega))
    rw [this, Bool.not_false, cd_t]
    rw [unE_cons hc] at hR
    rw [ad_64 (by omega), show (i : Int) + 1 = ((i + 1 : Nat) : Int) by omega, sc_s2 tt9 rfl (by omega) (by omega)]
    have e1 : (s.drop i).take (i + 1 - i) = [s[i]'hlt] := by
     rw [show i + 1 - i = 1 by omega, List.drop_eq_getElem_cons hlt]; rfl
    rw [e1, ad_s (by rw [List.length_singleton]; omega)]
    unfold F94_19
    rw [ad_64 (by omega), show (i : Int) + 1 = ((i + 1 : Nat) : Int) by omega]
    refine ih (i + 1) _ h (by omega) (by omega) (by rw [List.length_append, List.length_singleton]; omega) f ?_
    rw [← hR, Option.map_map]
    congr 1
    funext u
    simp
  ·rw [decide_eq_false (show ¬ (i : Int) < s.length by omega), cd_f]
   rw [List.drop_eq_nil_of_le (by omega), unE_nil] at hR
   have := k h f
   rw [← hR] at this
   simp only [Option.map_some, RV, List.append_nil] at this
   exact fun _ => this
theorem run_ok {n : Nat} (hn : 3 ≤ n) {h : H} {K : V → H → Prop} {l : Bs} (hl : l.length < 50000)
  (k : ∀ h', But h h' none → K (RV (unE l)) h') : Ok Tryz.prog n 94 [.s l] h K := by
 obtain ⟨n, rfl⟩ := Nat.exists_eq_add_of_le' hn
 refine Ok.bd (K94 fun hbd => ?_)
 unfold F94
 refine runl_ok (n := n + 2) (by omega) hl (R := unE l) k 100000 0 [] h (by omega) (by omega) (by simp; omega) (But.refl _ _) ?_
 rw [List.drop_zero]
 cases unE l <;> rfl
mutual
def TsA (h : H) (N : Nat → Prop) : XT → Te → Prop
 | .node a b ks, e => e.1 = a ∧ e.2.1 = b ∧ ∃ es, VecE h e.2.2 77 3 encT es ∧ (∀ q, vblk e.2.2 = some q → N q ∧ q < h.next) ∧ TssA h N ks es
def TssA (h : H) (N : Nat → Prop) : List XT → List Te → Prop
 | [], es => es = []
 | t :: ts, es => ∃ e es', es = e :: es' ∧ TsA h N t e ∧ TssA h N ts es'
end
mutual
theorem TsA.keep {h h' : H} {N M : Nat → Prop} (k : KeepN h h' N) (hM : ∀ q, q < h.next → N q → M q) : ∀ {t : XT} {e : Te}, TsA h N t e → TsA h' M t e
 | .node a b ks, e, ⟨h1, h2, es, h3, h4, h5⟩ => ⟨h1, h2, es, vece_keepN h3 h4 k, fun q hq => ⟨hM q (h4 q hq).2 (h4 q hq).1, Nat.lt_of_lt_of_le (h4 q hq).2 k.1⟩, h5.keep k hM⟩
theorem TssA.keep {h h' : H} {N M : Nat → Prop} (k : KeepN h h' N) (hM : ∀ q, q < h.next → N q → M q) : ∀ {ts : List XT} {es : List Te}, TssA h N ts es → TssA h' M ts es
 | [], _, h1 => h1
 | _ :: _, _, ⟨e, es', h1, h2, h3⟩ => ⟨e, es', h1, h2.keep k hM, h3.keep k hM⟩
end
theorem TssA.app {h : H} {N : Nat → Prop} {t : XT} {e : Te} (ht : TsA h N t e) : ∀ {ts : List XT} {es : List Te}, TssA h N ts es → TssA h N (ts ++ [t]) (es ++ [e])
 | [], es, h1 => by
  have : es = [] := h1
  subst this
  exact ⟨e, [], rfl, ht, rfl⟩
 | _ :: _, _, ⟨e1, es', rfl, h2, h3⟩ => ⟨e1, es' ++ [e], rfl, h2, h3.app ht⟩
theorem TssA.len {h : H} {N : Nat → Prop} : ∀ {ts : List XT} {es : List Te}, TssA h N ts es → es.length = ts.length
 | [], es, h1 => by
  have : es = [] := h1
  subst this; rfl
 | _ :: _, _, ⟨_, es', rfl, _, h3⟩ => by rw [List.length_cons, List.length_cons, h3.len]
theorem enc_oneS {h : H} {N : Nat → Prop} {t : XT} {e : Te} (A : TsA h N t e) : (encT e).all oneV = true := by
 cases t with
 | node nn tt kk =>
  obtain ⟨_, _, es', v7, _⟩ := A
  have : oneV e.2.2 = true := by
   obtain ⟨_, ⟨h1, _⟩ | ⟨_, _, _, _, h1, _⟩⟩ := v7 <;> rw [h1] <;> rfl
  show (true && (true && (oneV e.2.2 && true))) = true
  rw [this]; rfl
structure TrR (hS h : H) (r tv rv : Nat) (nm tx : Bs) (ks : List XT) : Prop where
 f : But hS h (some r)
 rS : r < hS.next
 tv0 : hS.next ≤ tv
 rv0 : hS.next ≤ rv
 tv1 : tv < h.next
 rv1 : rv < h.next
 ne : tv ≠ rv
 rb : ∃ cs, h.mem.get rv = some (.c cs 77 true) ∧ cs.length = 3
 k : ∃ kv es, h.mem.get tv = some (.c [.s nm, .s tx, kv] 77 true) ∧ VecE h kv 77 3 encT es ∧ (∀ q, vblk kv = some q → hS.next ≤ q ∧ q < h.next ∧ q ≠ tv ∧ q ≠ rv) ∧ TssA h (fun q => hS.next ≤ q ∧ q ≠ tv ∧ q ≠ rv ∧ vblk kv ≠ some q) ks es
theorem TrR.keep {hS h h' : H} {r tv rv : Nat} {nm tx : Bs} {ks : List XT} (T : TrR hS h r tv rv nm tx ks) (f : But h h' (some r)) : TrR hS h' r tv rv nm tx ks := by
 obtain ⟨f0, rS, a1, a2, a3, a4, ne, ⟨cs, b1, b2⟩, kv, es, c1, c2, c3, c4⟩ := T
 have n1 : some tv ≠ some r := fun e => by cases e; omega
 have n2 : some rv ≠ some r := fun e => by cases e; omega
 refine ⟨f0.trans f, rS, a1, a2, Nat.lt_of_lt_of_le a3 f.1, Nat.lt_of_lt_of_le a4 f.1, ne, ⟨cs, f.get a4 n2 b1, b2⟩, kv, es, f.get a3 n1 c1, c2.keep (fun q hq => (c3 q hq).2.1) f (.inl fun e => ?_), fun q hq => ?_, c4.keep ⟨f.1, fun q hq hN => f.2.1 q hq fun e => ?_⟩ fun q _ h => h⟩
 ·have := (c3 r e).1; omega
 ·have := c3 q hq
  exact ⟨this.1, Nat.lt_of_lt_of_le this.2.1 f.1, this.2.2⟩
 ·cases e; have := hN.1; omega
theorem TrR.text {hS h : H} {r tv rv : Nat} {nm tx : Bs} {ks : List XT} (T : TrR hS h r tv rv nm tx ks) (tx' : Bs) {κ : H → Prop} (k : ∀ h', But h h' (some tv) → TrR hS h' r tv rv nm tx' ks → κ h') : pw.s1 (.p tv 1) (.s tx') h κ := by
 obtain ⟨f0, rS, a1, a2, a3, a4, ne, ⟨cs, b1, b2⟩, kv, es, c1, c2, c3, c4⟩ := T
 refine s1_a c1 (by simp) rfl fun h1 hg f => k h1 f ?_
 have n2 : some rv ≠ some tv := fun e => by cases e; exact ne rfl
 refine ⟨f0.over f (.inr fun z e => by cases e; exact a1), rS, a1, a2, Nat.lt_of_lt_of_le a3 f.1, Nat.lt_of_lt_of_le a4 f.1, ne, ⟨cs, f.get a4 n2 b1, b2⟩, kv, es, hg, c2.keep (fun q hq => (c3 q hq).2.1) f (.inl fun e => (c3 tv e).2.2.1 rfl), fun q hq => ?_, c4.keep ⟨f.1, fun q hq hN => f.2.1 q hq fun e => ?_⟩ fun q _ h => h⟩
 ·have := c3 q hq
  exact ⟨this.1, Nat.lt_of_lt_of_le this.2.1 f.1, this.2.2⟩
 ·cases e; exact hN.2.1 rfl
theorem TrR.fin {hS h : H} {r tv rv : Nat} {nm tx : Bs} {ks : List XT} (T : TrR hS h r tv rv nm tx ks) {p : PS} {d : Int} {s : Bs} (P : Rps h r s p d) {K : V → H → Prop}
  (k : ∀ h' e, Rps h' r s p d → But hS h' (some r) → TsA h' (fun q => hS.next ≤ q) (.node nm tx ks) e → K (.a (encT e)) h') :
  pw.ln 3 (.p tv 0) h fun v29 => pw.sn 3 (.p rv 0) v29 h fun h30 => pw.ln 3 (.p rv 0) h30 fun v31 => Bd h30 → K v31 h30 := by
 obtain ⟨f0, rS, a1, a2, a3, a4, ne, ⟨cs, b1, b2⟩, kv, es, c1, c2, c3, c4⟩ := T
 have hkv : oneV kv = true := by
  obtain ⟨_, ⟨rfl, _⟩ | ⟨_, _, _, _, rfl, _⟩⟩ := c2 <;> rfl
 rw [ln_w (sz := 3) c1 rfl]
 refine sn_w b1 (cs := [.s nm, .s tx, kv]) rfl rfl b2 (by show (true && (true && (oneV kv && true))) = true; rw [hkv]; rfl) fun h1 hg f => ?_
 rw [ln_w (sz := 3) hg rfl]
 intro _
 have nr : r < h.next := Nat.lt_of_lt_of_le rS f0.1
 refine k h1 (nm, tx, kv) (P.keep f nr (fun e => by cases e; omega)) (f0.over f (.inr fun z e => by cases e; exact a2)) ⟨rfl, rfl, es, c2.keep (fun q hq => (c3 q hq).2.1) f (.inl fun e => (c3 rv e).2.2.2 rfl), fun q hq => ⟨(c3 q hq).1, Nat.lt_of_lt_of_le (c3 q hq).2.1 f.1⟩, c4.keep ⟨f.1, fun q hq hN => f.2.1 q hq fun e => ?_⟩ fun q _ h => h.1⟩
 cases e; exact hN.2.2.1 rfl
theorem TrR.kid {hS h : H} {r tv rv : Nat} {nm tx : Bs} {ks : List XT} {t : XT} {e : Te} {h0 : H} (T : TrR hS h0 r tv rv nm tx ks) (f07 : But h0 h (some r)) (A : TsA h (fun q => h0.next ≤ q) t e) (hk : ks.length < 100000) {κ : H → Prop}
  (k : ∀ h', (∀ q, q = r → h'.mem.get q = h.mem.get q) → But hS h' (some r) → TrR hS h' r tv rv nm tx (ks ++ [t]) → κ h') :
  pw.al (mkX Tryz.prog) 77 h fun v80 h80 => pw.sn 3 v80 (.a (encT e)) h80 fun h81 => pw.fa 2 (.p tv 0) fun v82 => pw.l1 v82 h81 fun v83 => pw.ln 3 v80 h81 fun v84 => pw.bs (mkX Tryz.prog) 75 1 [(0, v84)] h81 fun v85 h85 => pw.ap (mkX Tryz.prog) 75 75 v83 v85 h85 fun v86 h86 => pw.fa 2 (.p tv 0) fun v87 => pw.s1 v87 v86 h86 κ := by
 have T7 := T.keep f07
 have rS := T.rS
 have one := enc_oneS A
 refine al_a tt77 fun c h1 g1 f1 c0 c1 => ?_
 refine sn_w g1 (cs := encT e) rfl rfl rfl one fun h2 g2 f2 => ?_
 have f12 : But h h2 none := f1.over f2 (.inr fun y ey => by cases ey; exact c0)
 have T2 := T7.keep (f12.none _)
 simp only [fa_p, Nat.zero_add]
 obtain ⟨kv, es, c1', c2, c3, c4⟩ := T7.k
 have gt2 := f12.get T7.tv1 (by simp) c1'
 rw [l1_a gt2 rfl, ln_w (sz := 3) g2 rfl]
 refine bs_a (cs := encT e) (l := [(0 * 3, .a (encT e))]) tt75 rfl tt77 (by decide) rfl rfl fun q3 h3 g3 f3 _ _ => ?_
 have f13 := f12.trans f3
 have c2' : VecE h3 kv 77 3 encT es := c2.keep (fun q hq => (c3 q hq).2.1) f13 (.inr rfl)
 have hkl : es.length = ks.length := c4.len
 refine ap_vec (cs := encT e) (m := 1) tt75 rfl tt77 tt75 (by intro k e; cases e) rfl ?_ c2' rfl one (by unfold most; simp only; omega) (by unfold most; omega) fun v4 h4 hv4 f4 hq4 => ?_
 ·simp only [fcells, g3]
  rfl
 have hv4 : VecE h4 v4 77 3 encT (es ++ [e]) := by
  unfold VecE
  rw [encs_app, encs_one, List.length_append]
  exact hv4
 have ktv : vblk kv ≠ some tv := fun e => (c3 tv e).2.2.1 rfl
 have krv : vblk kv ≠ some rv := fun e => (c3 rv e).2.2.2 rfl
 have tv7 := T7.tv1
 have rv7 := T7.rv1
 have n13 := f13.1
 have n34 := f4.1
 have n07 := f07.1
 have n12 := f12.1
 have n23 := f3.1
 have gt4 := f4.get (Nat.lt_of_lt_of_le tv7 n13) (fun e => ktv e.symm) (f13.get tv7 (by simp) c1')
 have one4 : oneV v4 = true := by
  obtain ⟨_, ⟨h1, _⟩ | ⟨_, _, _, _, h1, _⟩⟩ := hv4 <;> rw [h1] <;> rfl
 refine s1_a (o := 2) gt4 (by simp) one4 fun h5 g5 f5 => ?_
 have n45 := f5.1
 have nS := T7.f.1
 have fk : ∀ z, vblk kv = some z → hS.next ≤ z := fun z hz => (c3 z hz).1
 have v4q : ∀ q, vblk v4 = some q → hS.next ≤ q ∧ q < h4.next ∧ q ≠ tv ∧ q ≠ rv := by
  intro q hq
  rcases hq4 with e4 | ⟨e4, e4'⟩
  ·rw [e4] at hq
   have hc := c3 q hq
   exact ⟨hc.1, by omega, hc.2.2⟩
  ·rw [e4] at hq
   cases hq
   exact ⟨by omega, e4', by omega, by omega⟩
 have f14 : But hS h4 (some r) := (T7.f.trans (f13.none _)).over f4 (.inr fk)
 have f15 : But hS h5 (some r) := f14.over f5 (.inr fun z e => by cases e; exact T.tv0)
 obtain ⟨csr, cr1, cr2⟩ := T7.rb
 have cr3 := f5.get (by omega) (fun e => T.ne (Option.some.inj e).symm) (f4.get (Nat.lt_of_lt_of_le rv7 n13) (fun e => krv e.symm) (f13.get rv7 (by simp) cr1))
 refine k h5 (fun q hq => ?_) f15 ⟨f15, rS, T.tv0, T.rv0, by omega, by omega, T.ne, ⟨csr, cr3, cr2⟩, v4, es ++ [e], g5, hv4.keep (fun q hq => (v4q q hq).2.1) f5 (.inl fun e => (v4q tv e).2.2.1 rfl), fun q hq => ?_, ((c4.keep (M := fun q => hS.next ≤ q ∧ q ≠ tv ∧ q ≠ rv ∧ vblk v4 ≠ some q) ⟨by omega, fun q hq hN => ?_⟩ fun q hq hN => ⟨hN.1, hN.2.1, hN.2.2.1, fun e => ?_⟩).app (A.keep ⟨by omega, fun q hq hN => ?_⟩ fun q hq hN => ⟨?_, ?_, ?_, fun e => ?_⟩))⟩
 ·subst hq
  have hr7 : q < h.next := by omega
  rw [f5.2.1 q (by omega) (fun e => by have := Option.some.inj e; have := T.tv0; omega), f4.2.1 q (by omega) (fun e => by have := fk q e.symm; omega), f13.2.1 q hr7 (by simp)]
 ·have := v4q q hq
  exact ⟨this.1, by omega, this.2.2⟩
 ·rw [f5.2.1 q (by omega) (fun e => hN.2.1 (Option.some.inj e)), f4.2.1 q (by omega) (fun e => hN.2.2.2 e.symm), f13.2.1 q hq (by simp)]
 ·rcases hq4 with e4 | ⟨e4, e4'⟩
  ·rw [e4] at e
   exact hN.2.2.2 e
  ·rw [e4] at e
   cases e
   omega
 ·have htv := T.tv1
  rw [f5.2.1 q (by omega) (fun e => by have := Option.some.inj e; omega), f4.2.1 q (by omega) (fun e => ?_), f13.2.1 q hq (by simp)]
  obtain ⟨kv0, es0, d1, d2, d3, d4⟩ := T.k
  have hg : h.mem.get tv = some (.c [.s nm, .s tx, kv0] 77 true) := f07.get T.tv1 (fun e => by have := Option.some.inj e; have := T.tv0; omega) d1
  rw [c1'] at hg
  have : kv = kv0 := by simpa using hg
  rw [this] at e
  have := (d3 q e.symm).2.1
  omega
 ·have := T.f.1; omega
 ·have := T.tv1; omega
 ·have := T.rv1; omega
 ·rcases hq4 with e4 | ⟨e4, e4'⟩
  ·rw [e4] at e
   obtain ⟨kv0, es0, d1, d2, d3, d4⟩ := T.k
   have hg : h.mem.get tv = some (.c [.s nm, .s tx, kv0] 77 true) := f07.get T.tv1 (fun e => by have := Option.some.inj e; have := T.tv0; omega) d1
   rw [c1'] at hg
   have : kv = kv0 := by simpa using hg
   rw [this] at e
   have := (d3 q e).2.1
   omega
  ·rw [e4] at e
   cases e
   omega
theorem toP_head {c : UInt8} {p : PS} : (toP c p).1.length ≤ p.1.length := by
 unfold toP
 split
 ·simp
 ·split
  ·rename_i a b e
   have := cut1_len e
   simp only; omega
  ·simp
theorem badT_ok2 {v : Bs} {o : Bool} (h : o = ((unE v).isSome && v.all fun c => !(c == 60))) : o = !badT v := by
 subst h
 unfold badT
 have e : (v.all fun c => !(c == 60)) = !decide (0 ≤ Lib.indexByte v 60) := by
  rw [indexByte_cut]
  cases hc : cut1 60 v with
  | none =>
   have := cut1_none hc
   show _ = !decide ((0 : Int) ≤ -1)
   rw [show (!decide ((0 : Int) ≤ -1)) = true from rfl, List.all_eq_true]
   intro c hm
   cases e : (c == 60) with
   | false => rfl
   | true => exact absurd ((eq_of_beq e) ▸ hm) this
  | some q =>
   have h1 := (cut1_some (h := q.1) (t := q.2) hc).1
   simp only
   rw [decide_eq_true (by omega), Bool.not_true]
   cases ha : (v.all fun c => !(c == 60)) with
   | false => rfl
   | true =>
    have := List.all_eq_true.1 ha 60 (by rw [h1]; simp)
    cases this
 rw [e]
 cases unE v <;> rfl
set_option maxHeartbeats 4000000 in
theorem val' {n : Nat} (hn : 3 ≤ n) {r tv rv : Nat} {s v nm : Bs} {p : PS} {d dd : Int} {h : H} {i211 : V → V → V → V → V → H → Prop} {K : V → H → Prop} (hbd : Bd h) (P : Rps h r s p d) (hl : v.length < 50000)
  (k : ∀ h', Rps h' r s (txP v p) d → But h h' (some r) → i211 (.p r 0) (.i .i64 dd) (.p rv 0) (.s nm) (.p tv 0) h') :
  F57_255 pw (mkX Tryz.prog) (Ok Tryz.prog n) K i211 (.p r 0) (.i .i64 dd) (.p rv 0) (.s nm) (.p tv 0) (.s v) h := by
 unfold F57_255
 simp only [cf_k]
 refine run_ok (by omega) hl fun h1 f1 => ?_
 have fin : ∀ (o : Bool) (h' : H), But h h' none → o = (!badT v) → F57_269 pw (mkX Tryz.prog) (Ok Tryz.prog n) K i211 (.p r 0) (.i .i64 dd) (.p rv 0) (.s nm) (.p tv 0) (.b o) h' := by
  intro o h' f ho
  obtain ⟨a, g, ty, hg, ha, hp⟩ := P.keep f (by
   obtain ⟨_, _, _, hg, _⟩ := P
   exact hbd _ _ hg) (by simp)
  unfold F57_269
  simp only [nl_p, fa_p, Nat.zero_add]
  rw [l1_a hg rfl]
  have out : ∀ b2 : Bool, b2 = (p.2 || badT v) → pw.s1 (.p r 2) (.b b2) h' fun h289 => i211 (.p r 0) (.i .i64 dd) (.p rv 0) (.s nm) (.p tv 0) h289 := by
   intro b2 e2
   subst e2
   refine s1_a hg (by simp) rfl fun h2 hg2 f2 => ?_
   refine k h2 ⟨a, g, ty, hg2, ha, fun e => hp ?_⟩ ((f.none _).trans f2)
   have e : (p.2 || badT v) = false := e
   cases h3 : p.2 with
   | false => rfl
   | true => rw [h3] at e; cases e
  cases h3 : p.2 with
  | true =>
   simp only [g0_t, pk_t, nl_p, fa_p, Nat.zero_add]
   exact out true (by rw [h3]; rfl)
  | false =>
   simp only [g0_f, nt_b, pk_f, nl_p, fa_p, Nat.zero_add]
   exact out (!o) (by rw [h3, ho]; simp)
 have go : ∀ (m i : Nat) (o : Bool) (h' : H), v.length - i < m → i ≤ v.length → But h h' none → o = ((unE v).isSome && (v.take i).all fun c => !(c == 60)) →
   F57_291 pw (mkX Tryz.prog) (Ok Tryz.prog n) K i211 m (.p r 0) (.i .i64 dd) (.p rv 0) (.s nm) (.p tv 0) (.s v) (.b o) (.i .i64 i) h' := by
  intro m
  induction m with
  | zero => intro i o h' hm; omega
  | succ m ih =>
   intro i o h' hm hi f ho
   rw [S57_291, lg_s tt9 rfl, lt_i]
   by_cases hlt : i < v.length
   ·rw [decide_eq_true (show (i : Int) < v.length by omega), cd_t]
    have hs := List.getElem?_eq_getElem hlt
    generalize v[i] = c at hs
    have ix : ∀ κ : V → Prop, pw.ix (mkX Tryz.prog) 9 (.s v) (.i .i64 i) κ = κ (.i .u8 c.toNat) := fun κ => ix_s tt9 rfl hs
    unfold F57_300
    have hn60 : (!decide ((c.toNat : Int) = 60)) = !(c == 60) := by
     congr 1
     rw [Bool.eq_iff_iff, decide_eq_true_eq, beq_iff_eq]
     have := u8_eq (b := c) (n := 60) (by decide)
     exact ⟨fun e => this.2 (by omega), fun e => by rw [e]; rfl⟩
    have htk : ((v.take (i + 1)).all fun c => !(c == 60)) = (((v.take i).all fun c => !(c == 60)) && !(c == 60)) := by
     rw [List.take_add_one, hs, List.all_append]
     simp
    have nxt : ∀ o', o' = ((unE v).isSome && (v.take (i + 1)).all fun c => !(c == 60)) → F57_309 pw (mkX Tryz.prog) (Ok Tryz.prog n) K i211 (F57_291 pw (mkX Tryz.prog) (Ok Tryz.prog n) K i211 m) (.p r 0) (.i .i64 dd) (.p rv 0) (.s nm) (.p tv 0) (.s v) (.b o') (.i .i64 i) h' := fun o' e => by
     unfold F57_309
     rw [ad_64 (by omega), show (i : Int) + 1 = ((i + 1 : Nat) : Int) by omega]
     exact ih (i + 1) o' h' (by omega) (by omega) f e
    cases o with
    | true =>
     simp only [g1_t, ix, ne_i, hn60, pk_t]
     refine nxt _ ?_
     rw [htk, ← Bool.and_assoc, ← ho, Bool.true_and]
    | false =>
     simp only [g1_f, pk_f]
     refine nxt _ ?_
     rw [htk, ← Bool.and_assoc, ← ho, Bool.false_and]
   ·rw [decide_eq_false (show ¬ (i : Int) < v.length by omega), cd_f]
    refine fin o h' f (badT_ok2 ?_)
    rw [ho, List.take_of_length_le (by omega)]
 cases hu : unE v with
 | some o =>
  simp only [ex_t, List.getElem?_cons_zero, List.getElem?_cons_succ, oP_some]
  exact go 100000 0 true h1 (by omega) (by omega) f1 (by rw [hu]; rfl)
 | none =>
  simp only [ex_t, List.getElem?_cons_zero, List.getElem?_cons_succ, oP_some]
  exact go 100000 0 false h1 (by omega) (by omega) f1 (by rw [hu]; rfl)
theorem Rps.len {h : H} {r : Nat} {s : Bs} {p : PS} {d : Int} (P : Rps h r s p d) (c : UInt8) : (toP c p).1.length ≤ s.length := by
 obtain ⟨a, g, ty, hg, ha, hp⟩ := P
 cases hb : p.2 with
 | true => unfold toP; rw [if_pos hb]; simp
 | false =>
  have := (hp hb).1
  have h2 := toP_head (c := c) (p := p)
  rw [← this, List.length_drop] at h2
  omega
theorem word' {n : Nat} (hn : 4 ≤ n) {r tv rv : Nat} {s nm : Bs} {p : PS} {d dd : Int} {h : H} {i211 : V → V → V → V → V → H → Prop} {K : V → H → Prop} (P : Rps h r s p d) (hl : s.length < 50000)
  (bd : ∀ {h' : H}, But h h' (some r) → Bd h')
  (k : ∀ h', Rps h' r s (wordP p) d → But h h' (some r) → i211 (.p r 0) (.i .i64 dd) (.p rv 0) (.s nm) (.p tv 0) h') :
  F57_240 pw (mkX Tryz.prog) (Ok Tryz.prog n) K i211 (.p r 0) (.i .i64 dd) (.p rv 0) (.s nm) (.p tv 0) h := by
 unfold F57_240
 simp only [cf_k, c57]
 refine name' (by omega) P hl fun h1 _ P1 f1 _ _ => ?_
 refine blanks' (by omega) P1 hl fun h2 P2 f2 => ?_
 refine want' (by omega) P2 hl (by decide) fun h3 P3 f3 => ?_
 refine blanks' (by omega) P3 hl fun h4 P4 f4 => ?_
 refine take' (by omega) P4 hl (by decide) fun h5 P5 f5 => ?_
 have f15 := f1.trans (f2.trans (f3.trans (f4.trans f5)))
 have hw : wordP p = if tkB [34] (blP (wtP [61] (blP (nmP p)))) = true then qtP 34 (tkP [34] (blP (wtP [61] (blP (nmP p))))) else qtP 39 (wtP [39] (tkP [34] (blP (wtP [61] (blP (nmP p)))))) := rfl
 rw [hw] at k
 generalize blP (wtP [61] (blP (nmP p))) = q at P5 k
 cases hb : tkB [34] q with
 | true =>
  rw [hb, if_pos rfl] at k
  rw [cd_t]
  refine till' (by omega) P5 hl (by simp) (by decide) fun h6 P6 f6 => ?_
  rw [toT_1] at P6 ⊢
  have hlen := P5.len 34
  refine val' (by omega) (bd (f15.trans f6)) P6 (by omega) fun h7 P7 f7 => ?_
  exact k h7 P7 (f15.trans (f6.trans f7))
 | false =>
  rw [hb, if_neg (by decide)] at k
  rw [cd_f]
  refine want' (by omega) P5 hl (by decide) fun h6 P6 f6 => ?_
  refine till' (by omega) P6 hl (by simp) (by decide) fun h7 P7 f7 => ?_
  rw [toT_1] at P7 ⊢
  have hlen := P6.len 39
  refine val' (by omega) (bd (f15.trans (f6.trans f7))) P7 (by omega) fun h8 P8 f8 => ?_
  exact k h8 P8 (f15.trans (f6.trans (f7.trans f8)))
set_option maxHeartbeats 4000000 in
theorem atl' {n : Nat} (hn : 4 ≤ n) {hS : H} {r tv rv : Nat} {s nm nmT : Bs} {d dd : Int} {K : V → H → Prop} {b : Bool} {q0 : PS} (hl : s.length < 50000) (hbS : Bd hS)
  (k1 : b = true → ∀ h', Rps h' r s q0 d → TrR hS h' r tv rv nmT [] [] → pw.ln 3 (.p tv 0) h' fun v29 => pw.sn 3 (.p rv 0) v29 h' fun h30 => pw.ln 3 (.p rv 0) h30 fun v31 => Bd h30 → K v31 h30)
  (k2 : (b = false ∨ q0.2 = true) → ∀ h', Rps h' r s q0 d → TrR hS h' r tv rv nmT [] [] → F57_16 pw (mkX Tryz.prog) (Ok Tryz.prog n) (fun v h => Bd h → K v h) (.p r 0) (.i .i64 dd) (.p rv 0) (.s nm) (.p tv 0) h') :
  ∀ (m m' : Nat) (p : PS) (h : H), opL m' p = (b, q0) → p.1.length + 2 ≤ m → p.1.length + 2 ≤ m' → Rps h r s p d → TrR hS h r tv rv nmT [] [] →
   F57_211 pw (mkX Tryz.prog) (Ok Tryz.prog n) (fun v h => Bd h → K v h) m (.p r 0) (.i .i64 dd) (.p rv 0) (.s nm) (.p tv 0) h := by
 intro m
 induction m with
 | zero => intro m' p h _ hm; omega
 | succ m ih =>
  intro m' p h e hm hm' P T
  obtain ⟨m', rfl⟩ := Nat.exists_eq_add_of_le' (show 1 ≤ m' by omega)
  have P0 := P
  obtain ⟨a, g, ty, hg, ha, hp⟩ := P
  rw [S57_211]
  simp only [nl_p, fa_p, Nat.zero_add]
  rw [l1_a hg rfl, nt_b]
  rw [opL] at e
  cases hb : p.2 with
  | true =>
   rw [if_pos hb] at e
   cases e
   rw [Bool.not_true, cd_f]
   exact k2 (.inr hb) h P0 T
  | false =>
   rw [if_neg (by rw [hb]; decide)] at e
   rw [Bool.not_false, cd_t]
   unfold F57_217
   simp only [cf_k, c57]
   refine blanks' (by omega) P0 hl fun h1 P1 f1 => ?_
   have T1 := T.keep f1
   have hbk : bkB p = decide ((blP p).1.length < p.1.length) := by unfold bkB; rw [hb]; rfl
   have hb1 : (blP p).2 = false := hb
   refine take' (by omega) P1 hl (by decide) fun h2 P2 f2 => ?_
   have T2 := T1.keep f2
   cases ht : tkB [47, 62] (blP p) with
   | true =>
    rw [if_pos ht] at e
    cases e
    rw [cd_t]
    exact k1 rfl h2 P2 T2
   | false =>
    rw [if_neg (by rw [ht]; decide)] at e
    rw [cd_f]
    rw [tkP_not ht] at P2 e
    unfold F57_226
    simp only [cf_k, c57]
    refine take' (by omega) P2 hl (by decide) fun h3 P3 f3 => ?_
    have T3 := T2.keep f3
    cases hu : tkB [62] (blP p) with
    | true =>
     rw [if_pos hu] at e
     cases e
     rw [cd_t]
     exact k2 (.inl rfl) h3 P3 T3
    | false =>
     rw [if_neg (by rw [hu]; decide)] at e
     rw [cd_f]
     rw [tkP_not hu] at P3 e
     unfold F57_233
     rw [hbk, nt_b]
     by_cases hs : (blP p).1.length < p.1.length
     ·rw [if_pos hs] at e
      rw [decide_eq_true hs, Bool.not_true, cd_f]
      refine word' hn P3 hl (fun f => (T3.keep f).f.2.2 hbS) fun h4 P4 f4 => ?_
      have hw := wordP_le (blP p)
      exact ih m' (wordP (blP p)) h4 e (by omega) (by omega) P4 (T3.keep f4)
     ·rw [if_neg hs] at e
      rw [decide_eq_false hs, Bool.not_false, cd_t]
      obtain ⟨m', rfl⟩ := Nat.exists_eq_add_of_le' (show 1 ≤ m' by omega)
      rw [opL, if_pos rfl] at e
      cases e
      obtain ⟨a3, g3, ty3, hg3, ha3, hp3⟩ := P3
      simp only [nl_p, fa_p, Nat.zero_add]
      refine s1_a hg3 (by simp) rfl fun h4 hg4 f4 => ?_
      exact k1 rfl h4 ⟨a3, g3, ty3, hg4, ha3, fun e => by cases e⟩ (T3.keep f4)
end Go.Proofs.YtbkhielalbbopaaGreatDoor.Wb
