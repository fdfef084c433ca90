/- The reference: what stands for a name. -/
import Derived.Test.YtbkhielalbbopaaDoorXs10
set_option linter.unusedSimpArgs false
set_option linter.unusedVariables false
set_option linter.unusedSectionVars false
set_option linter.unnecessarySimpa false
set_option maxRecDepth 100000
namespace Go.Proofs.YtbkhielalbbopaaDoor.Wb
open Go Go.Am Go.Am.Xm

def sgR : Bs → Option Bs
  | [] => none
  | a :: l => if a = 35 then num l else none
theorem sgn_rest {s : Bs} (n1 : ¬ s = [97, 109, 112]) (n2 : ¬ s = [108, 116]) (n3 : ¬ s = [103, 116]) (n4 : ¬ s = [113, 117, 111, 116]) (n5 : ¬ s = [97, 112, 111, 115]) : sgn s = sgR s := by
  simp only [sgn, if_neg n1, if_neg n2, if_neg n3, if_neg n4, if_neg n5]
  cases s <;> rfl
abbrev RV (R : Option Bs) : V := match R with | some o => .t [.s o, .b true] | none => .t [.s [], .b false]

/-- A number between two. -/
theorem rng {t : TypeId} {kd : IntKind} {b lo hi : Int} {h : H} {R : V → H → Prop} (k : R (.b (decide (lo ≤ b) && decide (b ≤ hi))) h) :
    pw.ge (mkX Tryd.prog) t (.i kd b) (.i kd lo) fun v80 => pw.g1 v80 (fun κ => κ (.i kd b) h) h fun v83 h83 => pw.g1 v80 (fun κ => pw.le (mkX Tryd.prog) t v83 (.i kd hi) fun v84 => κ v84 h83) h83 fun v85 h85 => pw.pk v80 v85 (.b false) fun v86 => R v86 h85 := by
  rw [ge_i]
  cases e1 : decide (lo ≤ b) <;> rw [e1] at k
  · simp only [g1_f, pk_f]
    exact k
  · simp only [g1_t, le_i, pk_t]
    exact k

theorem rdig_ok {n : Nat} {s : Bs} {i : Nat} {base z : Int} {c : UInt8} {h : H} {K : V → H → Prop} {it : V → V → V → V → H → Prop} (hc : s[i]? = some c)
    (k : F28_52 pw (mkX Tryd.prog) (Ok Tryd.prog n) K it (.s s) (.i .i64 base) (.i .i64 z) (.i .i64 i) (.i .i64 (dig c : Nat)) h) :
    F28_38 pw (mkX Tryd.prog) (Ok Tryd.prog n) K it (.s s) (.i .i64 base) (.i .i64 z) (.i .i64 i) h := by
  unfold F28_38
  rw [ix_s tt9 rfl hc]
  refine rng ?_
  by_cases c1 : 48 ≤ c.toNat ∧ c.toNat ≤ 57
  · rw [decide_eq_true (show (48 : Int) ≤ c.toNat by omega), decide_eq_true (show (c.toNat : Int) ≤ 57 by omega), Bool.and_true, cd_t, sb_u8 (by omega), ci_64 (by omega)]
    have : ((dig c : Nat) : Int) = (c.toNat : Int) - 48 := by simp only [dig, if_pos c1]; omega
    rw [this] at k
    exact k
  rw [show (decide ((48 : Int) ≤ c.toNat) && decide ((c.toNat : Int) ≤ 57)) = false by rw [Bool.eq_false_iff]; intro e; rw [Bool.and_eq_true, decide_eq_true_eq, decide_eq_true_eq] at e; omega, cd_f]
  refine rng ?_
  by_cases c2 : 97 ≤ c.toNat ∧ c.toNat ≤ 102
  · rw [decide_eq_true (show (97 : Int) ≤ c.toNat by omega), decide_eq_true (show (c.toNat : Int) ≤ 102 by omega), Bool.and_true, cd_t, sb_u8 (by omega), ci_64 (by omega), ad_64 (by omega)]
    have : ((dig c : Nat) : Int) = (c.toNat : Int) - 97 + 10 := by simp only [dig, if_neg c1, if_pos c2]; omega
    rw [this] at k
    exact k
  rw [show (decide ((97 : Int) ≤ c.toNat) && decide ((c.toNat : Int) ≤ 102)) = false by rw [Bool.eq_false_iff]; intro e; rw [Bool.and_eq_true, decide_eq_true_eq, decide_eq_true_eq] at e; omega, cd_f]
  refine rng ?_
  by_cases c3 : 65 ≤ c.toNat ∧ c.toNat ≤ 70
  · rw [decide_eq_true (show (65 : Int) ≤ c.toNat by omega), decide_eq_true (show (c.toNat : Int) ≤ 70 by omega), Bool.and_true, cd_t, sb_u8 (by omega), ci_64 (by omega), ad_64 (by omega)]
    have : ((dig c : Nat) : Int) = (c.toNat : Int) - 65 + 10 := by simp only [dig, if_neg c1, if_neg c2, if_pos c3]; omega
    rw [this] at k
    exact k
  rw [show (decide ((65 : Int) ≤ c.toNat) && decide ((c.toNat : Int) ≤ 70)) = false by rw [Bool.eq_false_iff]; intro e; rw [Bool.and_eq_true, decide_eq_true_eq, decide_eq_true_eq] at e; omega, cd_f]
  have : ((dig c : Nat) : Int) = 99 := by simp only [dig, if_neg c1, if_neg c2, if_neg c3]; rfl
  rw [this] at k
  exact k

theorem rend_ok {n : Nat} (hn : 1 ≤ n) {z : Nat} {h : H} {K : V → H → Prop}
    (k : ∀ h', But h h' none → K (RV (if mayN z = true then some (Utf8.encode (z : Int)).data.toList else none)) h') :
    F28_19 pw (mkX Tryd.prog) (Ok Tryd.prog n) (fun v h => Bd h → K v h) (.i .i64 z) h := by
  unfold F28_19
  rw [cf_k]
  refine rmay_ok hn ?_
  cases hm : mayN z with
  | false =>
    simp only [nt_b, Bool.not_false, cd_t]
    have := k h (But.refl _ _)
    rw [hm, if_neg (by decide)] at this
    exact fun _ => this
  | true =>
    simp only [nt_b, Bool.not_true, cd_f, F28_21]
    rw [cf_k]
    have hz : z ≤ 1114111 := by
      rw [mayN_eq] at hm
      simp only [Bool.and_eq_true, Bool.not_eq_true', decide_eq_false_iff_not] at hm
      omega
    refine put_ok hn hz fun h' f => ?_
    have := k h' f
    rw [hm, if_pos rfl, enc4_eq hm] at this
    exact fun _ => this

theorem rnum_ok {n : Nat} (hn : 1 ≤ n) {s : Bs} {base : Nat} (hb : base = 10 ∨ base = 16) (hl : s.length ≤ 8) {h : H} {K : V → H → Prop} {R : Option Bs}
    (k : ∀ h', But h h' none → K (RV R) h') :
    ∀ (m i z : Nat), s.length - i < m → i ≤ s.length → z < 16 ^ i → (match numV base z (s.drop i) with | none => none | some n => if mayN n = true then some (Utf8.encode (n : Int)).data.toList else none) = R →
      F28_33 pw (mkX Tryd.prog) (Ok Tryd.prog n) (fun v h => Bd h → K v h) m (.s s) (.i .i64 base) (.i .i64 z) (.i .i64 i) h := by
  intro m
  induction m with
  | zero => intro i z hm; omega
  | succ m ih =>
    intro i z hm hi hz hR
    show pw.lg _ _ _ _
    rw [lg_s tt9 rfl, lt_i]
    have hp : 16 ^ i ≤ 16 ^ 8 := Nat.pow_le_pow_right (by decide) (by omega)
    have h8 : 16 ^ 8 = 4294967296 := by decide
    by_cases hlt : i < s.length
    · rw [decide_eq_true (show (i : Int) < s.length by omega), cd_t]
      have hsp : s[i]? = some (s[i]'hlt) := List.getElem?_eq_getElem hlt
      refine rdig_ok hsp ?_
      unfold F28_52
      rw [List.drop_eq_getElem_cons hlt] at hR
      simp only [numV] at hR
      rw [ge_i]
      by_cases hd : dig (s[i]'hlt) < base
      · rw [if_pos hd] at hR
        rw [decide_eq_false (show ¬ ((base : Nat) : Int) ≤ (dig (s[i]'hlt) : Nat) by omega), cd_f]
        unfold F28_58 F28_43
        have hmul : z * base ≤ z * 16 := Nat.mul_le_mul_left z (by omega)
        have e : (z : Int) * (base : Int) = ((z * base : Nat) : Int) := by push_cast; rfl
        have hp2 : 16 ^ (i + 1) = 16 ^ i * 16 := Nat.pow_succ ..
        rw [mu_64 (by rw [e]; omega), e, ad_64 (by omega), ad_64 (by omega)]
        have e2 : ((z * base : Nat) : Int) + (dig (s[i]'hlt) : Nat) = ((z * base + dig (s[i]'hlt) : Nat) : Int) := by omega
        rw [e2, show (i : Int) + 1 = ((i + 1 : Nat) : Int) by omega]
        exact ih (i + 1) _ (by omega) (by omega) (by rw [hp2]; omega) hR
      · rw [if_neg hd] at hR
        rw [decide_eq_true (show ((base : Nat) : Int) ≤ (dig (s[i]'hlt) : Nat) by omega), cd_t]
        have := k h (But.refl _ _)
        rw [← hR] at this
        exact fun _ => this
    · rw [decide_eq_false (show ¬ (i : Int) < s.length by omega), cd_f]
      rw [List.drop_eq_nil_of_le (by omega)] at hR
      simp only [numV] at hR
      exact rend_ok hn (by rw [hR]; exact k)

theorem rnumB_ok {n : Nat} (hn : 1 ≤ n) {s : Bs} {base : Nat} (hb : base = 10 ∨ base = 16) {h : H} {K : V → H → Prop}
    (k : ∀ h', But h h' none → K (RV (numB s base)) h') : F28_12 pw (mkX Tryd.prog) (Ok Tryd.prog n) (fun v h => Bd h → K v h) (.s s) (.i .i64 base) h := by
  unfold F28_12
  rw [lg_s tt9 rfl, lt_i]
  by_cases h1 : s.length < 1
  · rw [decide_eq_true (show (s.length : Int) < 1 by omega)]
    simp only [g0_t, pk_t, cd_t]
    have := k h (But.refl _ _)
    rw [numB, if_pos (by omega)] at this
    exact fun _ => this
  · rw [decide_eq_false (show ¬ (s.length : Int) < 1 by omega)]
    simp only [g0_f]
    rw [lg_s tt9 rfl, gt_i]
    by_cases h2 : 8 < s.length
    · rw [decide_eq_true (show (8 : Int) < s.length by omega), pk_f, cd_t]
      have := k h (But.refl _ _)
      rw [numB, if_pos (by omega)] at this
      exact fun _ => this
    · rw [decide_eq_false (show ¬ (8 : Int) < s.length by omega), pk_f, cd_f]
      rw [numB, if_neg (by omega)] at k
      unfold F28_15
      exact rnum_ok hn hb (by omega) k 100000 0 0 (by omega) (by omega) (by decide) rfl

theorem rsign_ok {n : Nat} (hn : 2 ≤ n) {s : Bs} {h : H} {K : V → H → Prop}
    (k : ∀ h', But h h' none → K (RV (sgn s)) h') : Ok Tryd.prog n 28 [.s s] h K := by
  obtain ⟨n, rfl⟩ := Nat.exists_eq_add_of_le' hn
  refine Ok.bd (K28 fun hbd => ?_)
  unfold F28
  simp only [c28, eq_s]
  have fin : ∀ {p o : Bs} {A : Prop}, (s = p → sgn s = some o) → (¬ s = p → A) → pw.cd (.b (s == p)) (Bd h → K (.t [.s o, .b true]) h) A := by
    intro p o A h1 h2
    by_cases e : s = p
    · rw [show (s == p) = true by rw [e]; simp]
      simp only [cd_t]
      intro _
      have := k h (But.refl _ _)
      rw [h1 e] at this
      exact this
    · rw [show (s == p) = false by simpa using e]
      simp only [cd_f]
      exact h2 e
  refine fin (fun e => by rw [e]; rfl) fun n2 => ?_
  refine fin (fun e => by rw [e]; rfl) fun n3 => ?_
  refine fin (fun e => by rw [e]; rfl) fun n1 => ?_
  refine fin (fun e => by rw [e]; rfl) fun n4 => ?_
  refine fin (fun e => by rw [e]; rfl) fun n5 => ?_
  rw [sgn_rest n1 n2 n3 n4 n5] at k
  clear fin n1 n2 n3 n4 n5
  unfold F28_4
  rw [lg_s tt9 rfl, lt_i]
  have none_ : (∀ h', But h h' none → K (RV none) h') → Bd h → K (.t [.s [], .b false]) h := fun k _ => k h (But.refl _ _)
  match s, k with
  | [], k =>
    rw [decide_eq_true (show ((([] : Bs).length : Nat) : Int) < 2 by decide)]
    simp only [g0_t, pk_t, cd_t]
    exact none_ k
  | [a], k =>
    have k' : ∀ h', But h h' none → K (RV none) h' := by
      intro h' f
      have := k h' f
      simp only [sgR, num, ite_self] at this
      exact this
    rw [decide_eq_true (show ((([a] : Bs).length : Nat) : Int) < 2 by rw [List.length_singleton]; decide)]
    simp only [g0_t, pk_t, cd_t]
    exact none_ k'
  | a :: b :: l, k =>
    rw [decide_eq_false (show ¬ (((a :: b :: l).length : Nat) : Int) < 2 by simp only [List.length_cons]; omega)]
    simp only [g0_f]
    rw [show pw.ix (mkX Tryd.prog) 9 (.s (a :: b :: l)) (.i .i64 0) = fun κ => κ (.i .u8 a.toNat) from funext fun κ => ix_s tt9 rfl (n := 0) rfl]
    simp only [ne_i, pk_f]
    by_cases ha : a = 35
    · have : decide (((a.toNat : Nat) : Int) = 35) = true := by rw [ha]; rfl
      rw [this, Bool.not_true, cd_f]
      simp only [sgR, if_pos ha] at k
      unfold F28_6
      rw [show pw.sc (mkX Tryd.prog) 9 (.s (a :: b :: l)) (some (.i .i64 1)) none none = fun κ => κ (.s (b :: l)) from funext fun κ => sc_s1 tt9 rfl (n := 1) (by simp)]
      dsimp only
      rw [show pw.ix (mkX Tryd.prog) 9 (.s (b :: l)) (.i .i64 0) = fun κ => κ (.i .u8 b.toNat) from funext fun κ => ix_s tt9 rfl (n := 0) rfl]
      simp only [eq_i]
      by_cases hb : b = 120
      · have : decide (((b.toNat : Nat) : Int) = 120) = true := by rw [hb]; rfl
        rw [this, cd_t, show pw.sc (mkX Tryd.prog) 9 (.s (b :: l)) (some (.i .i64 1)) none none = fun κ => κ (.s l) from funext fun κ => sc_s1 tt9 rfl (n := 1) (by simp)]
        refine rnumB_ok (base := 16) (by omega) (.inr rfl) fun h' f => ?_
        have := k h' f
        simp only [num, if_pos hb] at this
        exact this
      · have : decide (((b.toNat : Nat) : Int) = 120) = false := decide_eq_false fun e => hb ((u8_eq (n := 120) (by decide)).2 (by omega))
        rw [this, cd_f]
        refine rnumB_ok (base := 10) (by omega) (.inl rfl) fun h' f => ?_
        have := k h' f
        simp only [num, if_neg hb] at this
        exact this
    · have : decide (((a.toNat : Nat) : Int) = 35) = false := decide_eq_false fun e => ha ((u8_eq (n := 35) (by decide)).2 (by omega))
      rw [this, Bool.not_false, cd_t]
      simp only [sgR, if_neg ha] at k
      exact none_ k
end Go.Proofs.YtbkhielalbbopaaDoor.Wb
