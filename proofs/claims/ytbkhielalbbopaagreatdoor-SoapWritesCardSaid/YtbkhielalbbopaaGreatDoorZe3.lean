/- Numbers written by the program: three digits; Itoa. -/
import Derived.Test.YtbkhielalbbopaaGreatDoorZe2
set_option linter.unusedSimpArgs false
set_option linter.unusedVariables false
set_option linter.unusedSectionVars false
set_option linter.unnecessarySimpa false
set_option maxRecDepth 100000
namespace Go.Proofs.YtbkhielalbbopaaGreatDoor.Wb
open Go Go.Am Go.Am.Xm

theorem ix_n {l : Bs} {n : Nat} {c : UInt8} {k : IntKind} {κ : V → Prop} (h : l[n]? = some c) : pw.ix (mkX Tryz.prog) 9 (.s l) (.i k (n : Int)) κ = κ (.i .u8 c.toNat) := ix_s tt9 rfl h
theorem sc_arr {t el : TypeId} {i j : TI} (ht : (mkX Tryz.prog).tt.get t = some i) {n : Nat} (hk : i.k = .arr n el) (hj : (mkX Tryz.prog).tt.get el = some j) {r o lo hi : Nat} {k k' : IntKind} (h1 : lo ≤ hi) (h2 : hi ≤ n) (h3 : lo < n) {κ : V → Prop} : pw.sc (mkX Tryz.prog) t (.p r o) (some (.i k (lo : Int))) (some (.i k' (hi : Int))) none κ = κ (.sl r (o + lo * j.sz) (hi - lo) (n - lo) false) := by
  have : slc (mkX Tryz.prog) t (.p r o) (some (.i k (lo : Int))) (some (.i k' (hi : Int))) none = some (.sl r (o + lo * j.sz) (hi - lo) (n - lo) false) := by
    simp only [slc, ti, ht, hk, hj, goS, bound_n, bound_i h2, bound_i h1]
    rw [beq_no (by omega), blt_of h3]
    rfl
  show oP (slc (mkX Tryz.prog) t (.p r o) (some (.i k (lo : Int))) (some (.i k' (hi : Int))) none) κ = _
  rw [this, oP_some]
theorem sc_24 {r : Nat} {k k' : IntKind} {κ : V → Prop} : pw.sc (mkX Tryz.prog) 183 (.p r 0) (some (.i k 1)) (some (.i k' 4)) none κ = κ (.sl r 1 3 23 false) := sc_arr (lo := 1) (hi := 4) (n := 24) tt183 rfl tt5 (by decide) (by decide) (by decide)
theorem cs_part {r o : Nat} {l : List V} {ty : TypeId} {w : Bool} {n c : Nat} {e : Bool} {bs : Bs} {h : H} {κ : V → Prop} (hg : h.mem.get r = some (.c l ty w)) (hs : sub l o n = some (u8s bs)) : pw.cs (mkX Tryz.prog) 60 9 (.sl r o n c e) h κ = κ (.s bs) := by
  simp only [pw, rdVw, ti_some _ tt60, ti_some _ tt9, ti_some _ tt5, hg, hs, bytesOf_u8s, oP]

theorem tt24 : (mkX Tryz.prog).tt.get 183 = some ⟨.arr 24 5, 24, 24, true, (some (List.replicate 24 .i)), List.replicate 24 (.i .u8 0), (.a (List.replicate 24 (.i .u8 0)))⟩ := tt183

theorem digs3 {c : Nat} (h1 : 100 ≤ c) (h2 : c < 1000) : digs c = [dg (c / 100), dg (c % 100 / 10), dg (c % 100 % 10)] := by
  rw [digs_hi (by omega), digs_hi (by omega), digs_lo (by omega)]
  rw [show c / 10 / 10 = c / 100 by omega, show c / 10 % 10 = c % 100 / 10 by omega, show c % 10 = c % 100 % 10 by omega]
  rfl

theorem mu_u32 {m n : Int} {t : TypeId} {x : X} {κ : V → Prop} (h : 0 ≤ m * n ∧ m * n ≤ 4294967295) : pw.mu x t (.i .u32 m) (.i .u32 n) κ = κ (.i .u32 (m * n)) := by
  rw [mu_i, wrap_u32', Int.emod_eq_of_lt (by omega) (by omega)]
theorem ad_u32 {m n : Int} {t : TypeId} {x : X} {κ : V → Prop} (h : 0 ≤ m + n ∧ m + n ≤ 4294967295) : pw.ad x t (.i .u32 m) (.i .u32 n) κ = κ (.i .u32 (m + n)) := by
  rw [ad_i, wrap_u32', Int.emod_eq_of_lt (by omega) (by omega)]
theorem qu_u32 {m n : Nat} {t : TypeId} {x : X} {κ : V → Prop} (h : m ≤ 4294967295 ∧ 1 ≤ n) : pw.qu x t (.i .u32 (m : Int)) (.i .u32 (n : Int)) κ = κ (.i .u32 ((m / n : Nat) : Int)) := by
  have hd : m / n ≤ m := Nat.div_le_self _ _
  rw [qu_i (by omega), wrap_u32']
  have e : ((m : Int).tdiv (n : Int)) = ((m / n : Nat) : Int) := rfl
  rw [e]
  generalize m / n = q at hd ⊢
  rw [Int.emod_eq_of_lt (by omega) (by omega)]
theorem re_u32 {m n : Nat} {t : TypeId} {x : X} {κ : V → Prop} (h : 1 ≤ n) : pw.re x t (.i .u32 (m : Int)) (.i .u32 (n : Int)) κ = κ (.i .u32 ((m % n : Nat) : Int)) := by
  rw [re_i (by omega)]
  rfl

theorem fmt_smalls : ([48, 48, 48, 49, 48, 50, 48, 51, 48, 52, 48, 53, 48, 54, 48, 55, 48, 56, 48, 57, 49, 48, 49, 49, 49, 50, 49, 51, 49, 52, 49, 53, 49, 54, 49, 55, 49, 56, 49, 57, 50, 48, 50, 49, 50, 50, 50, 51, 50, 52, 50, 53, 50, 54, 50, 55, 50, 56, 50, 57, 51, 48, 51, 49, 51, 50, 51, 51, 51, 52, 51, 53, 51, 54, 51, 55, 51, 56, 51, 57, 52, 48, 52, 49, 52, 50, 52, 51, 52, 52, 52, 53, 52, 54, 52, 55, 52, 56, 52, 57, 53, 48, 53, 49, 53, 50, 53, 51, 53, 52, 53, 53, 53, 54, 53, 55, 53, 56, 53, 57, 54, 48, 54, 49, 54, 50, 54, 51, 54, 52, 54, 53, 54, 54, 54, 55, 54, 56, 54, 57, 55, 48, 55, 49, 55, 50, 55, 51, 55, 52, 55, 53, 55, 54, 55, 55, 55, 56, 55, 57, 56, 48, 56, 49, 56, 50, 56, 51, 56, 52, 56, 53, 56, 54, 56, 55, 56, 56, 56, 57, 57, 48, 57, 49, 57, 50, 57, 51, 57, 52, 57, 53, 57, 54, 57, 55, 57, 56, 57, 57] : Bs) = smalls := by decide +kernel

/-- Three digits into an array from its second byte on. -/
theorem base10_ok {n c r : Nat} (hn : 1 ≤ n) (h1 : 100 ≤ c) (h2 : c < 1000) {h : H} {K : V → H → Prop} (hg : h.mem.get r = some (.c (List.replicate 24 (.i .u8 0)) 183 true))
    (k : ∀ h' l, h'.mem.get r = some (.c l 183 true) → l.length = 24 → sub l 1 3 = some (u8s (digs c)) → But h h' (some r) → K (.t []) h') : Ok Tryz.prog n 147 [.sl r 1 3 23 false, .i .u64 c] h K := by
  obtain ⟨n, rfl⟩ := Nat.exists_eq_add_of_le' hn
  refine Ok.bd (K147 fun hbd => ?_)
  unfold F147
  rw [ls_sl tt60 rfl]
  rw [show (100000 : Nat) = 99999 + 1 from rfl, S147_105, ge_i, decide_eq_false (show ¬ (8 : Int) ≤ ((3 : Nat) : Int) by decide), cd_f]
  unfold F147_6
  rw [ci_u32 (by omega), ge_i, decide_eq_false (show ¬ (4 : Int) ≤ ((3 : Nat) : Int) by decide), cd_f]
  unfold F147_13
  rw [ge_i, decide_eq_true (show (2 : Int) ≤ ((3 : Nat) : Int) by decide), cd_t]
  have q1 : ∀ κ : V → Prop, pw.re (mkX Tryz.prog) 196 (.i .u32 (c : Int)) (.i .u32 100) κ = κ (.i .u32 ((c % 100 : Nat) : Int)) := fun κ => re_u32 (n := 100) (by decide)
  have q2 : ∀ κ : V → Prop, pw.qu (mkX Tryz.prog) 196 (.i .u32 (c : Int)) (.i .u32 100) κ = κ (.i .u32 ((c / 100 : Nat) : Int)) := fun κ => qu_u32 (n := 100) (by omega)
  rw [q1, mu_u32 (by omega), q2, show ((c % 100 : Nat) : Int) * 2 = ((2 * (c % 100) : Nat) : Int) by omega, sb_64 (by decide), sb_64 (by decide), ad_u32 (by omega), show ((2 * (c % 100) : Nat) : Int) + 1 = ((2 * (c % 100) + 1 : Nat) : Int) by omega]
  obtain ⟨s0, s1⟩ := smalls_0 (n := c % 100) (by omega)
  simp only [c147, fmt_smalls]
  rw [ix_n s1, ix_n s0]
  rw [is_sl1 (by decide)]
  refine s1_a hg (by simp) rfl fun g1 hg1 f1 => ?_
  rw [is_sl1 (by decide)]
  refine s1_a hg1 (by simp) rfl fun g2 hg2 f2 => ?_
  rw [sb_64 (by decide)]
  unfold F147_17
  rw [gt_i, decide_eq_true (show (0 : Int) < ((3 : Nat) : Int) - 2 by decide), cd_t, ad_u32 (by omega), ci_u8 (by omega), is_sl1 (by decide)]
  refine s1_a hg2 (by simp) rfl fun g3 hg3 f3 => ?_
  have e3 : (48 : Int) + ((c / 100 : Nat) : Int) = ((dg (c / 100)).toNat : Int) := by rw [dg_nat (by omega)]; omega
  refine fun _ => k g3 _ hg3 (by simp) ?_ ((f1.trans f2).trans f3)
  rw [digs3 h1 h2, e3]
  simp only [List.replicate, List.set]
  rfl

/-- FormatInt, Itoa. -/
theorem itoa_ok {n c : Nat} (hn : 9 ≤ n) (h2 : c < 1000) {h : H} {K : V → H → Prop} (p : P10 h) (k : ∀ h', But h h' none → K (.s (digs c)) h') : Ok Tryz.prog n 58 [.i .i64 c] h K := by
  obtain ⟨n, rfl⟩ := Nat.exists_eq_add_of_le' hn
  refine Ok.bd (K58 fun hbd => ?_)
  unfold F58
  rw [cf_k]
  refine K95 fun hbd => ?_
  unfold F95
  rw [cf_k]
  refine K122 fun hbd => ?_
  unfold F122
  rw [eq_i, decide_eq_true rfl, cd_t, le_i, decide_eq_true (show (0 : Int) ≤ c by omega)]
  simp only [g1_t]
  rw [lt_i]
  by_cases h1 : c < 100
  · rw [decide_eq_true (show (c : Int) < 100 by omega)]
    simp only [pk_t, cd_t, cf_k]
    refine small_ok (by omega) h1 ?_
    exact fun _ => k h (But.refl _ _)
  · rw [decide_eq_false (show ¬ (c : Int) < 100 by omega)]
    simp only [pk_t, cd_f]
    unfold F122_22
    refine al_a tt24 fun r g1 hg1 f1 r0 r1 => ?_
    rw [ci_u64 (by omega), lt_i, decide_eq_false (show ¬ (c : Int) < 0 by omega), cd_f]
    unfold F122_28
    rw [cf_k]
    refine num3_ok (by omega) (by omega) h2 (p.keep f1 (by simp)) fun g2 f2 => ?_
    rw [ad_64 (by decide)]
    have hg2 := f2.get r1 (by simp) hg1
    rw [show (1 : Int) + 3 = 4 from rfl, sc_24]
    try simp only [cf_k]
    refine base10_ok (by omega) (by omega) h2 hg2 fun g3 l hg3 hl hs f3 => ?_
    rw [lt_i, decide_eq_false (show ¬ (c : Int) < 0 by omega), cd_f]
    unfold F122_40
    rw [ad_64 (by decide), show (1 : Int) + 3 = 4 from rfl, sc_24]
    rw [cs_part hg3 hs]
    exact fun _ => k g3 ((f1.trans f2).over f3 (.inr fun z ez => by cases ez; exact r0))
end Go.Proofs.YtbkhielalbbopaaGreatDoor.Wb
