/- Numbers written by the program, from 0 to 999 (as Ze1..Ze3, over this law's bodies). -/
import Derived.Test.YtbkhielalbbopaaGreatDoorVq4
import Derived.Test.YtbkhielalbbopaaGreatDoorUn0
import Derived.Test.YtbkhielalbbopaaGreatDoorM4
set_option linter.unusedSimpArgs false
set_option linter.unusedVariables false
set_option linter.unusedSectionVars false
set_option linter.unnecessarySimpa false
set_option maxRecDepth 100000
namespace Go.Proofs.YtbkhielalbbopaaGreatDoor.Wb
open Go Go.Am Go.Am.Xm

/-! ### The program's -/
/-- What the table of tens holds where it is asked for. -/
def P10 (h : H) : Prop := ∃ l ty w, h.mem.get 3 = some (.c l ty w) ∧ l[2]? = some (.i .u64 100) ∧ l[3]? = some (.i .u64 1000) ∧ 3 < h.next
theorem P10.keep {h h' : H} {q : Option Nat} (p : P10 h) (k : But h h' q) (hq : q ≠ some 3) : P10 h' := by
  obtain ⟨l, ty, w, h1, h2, h3, h4⟩ := p
  exact ⟨l, ty, w, k.get h4 (fun e => hq e.symm) h1, h2, h3, Nat.lt_of_lt_of_le h4 k.1⟩

noncomputable def l64 (m d n : Nat) : Bool := match sem (mkX Tryz.prog) 100000 (d + 5) 168 [.i .u64 (n : Nat)] ⟨m, .l⟩ with
  | some (.i .i64 k, _) => decide (7 ≤ k ∧ k ≤ 10)
  | _ => false
theorem l64_ok (m d : Nat) : (List.range' 100 900).all (l64 m d) = true := by kernel_rfl
noncomputable def p2 (m d n : Nat) : Bool := match sem (mkX Tryz.prog) 100000 (d + 5) 167 [.i .i64 (n : Nat)] ⟨m, .l⟩ with
  | some (.i .i64 k, _) => decide (k = 2 ∨ k = 3)
  | _ => false
theorem p2_ok (m d : Nat) : (List.range' 7 4).all (p2 m d) = true := by kernel_rfl


theorem l64_w {n c : Nat} (hn : 5 ≤ n) (h1 : 100 ≤ c) (h2 : c < 1000) {h : H} {K : V → H → Prop} (k : ∀ h' (z : Nat), But h h' none → 7 ≤ z → z ≤ 10 → K (.i .i64 z) h') : Ok Tryz.prog n 168 [.i .u64 c] h K := by
  obtain ⟨n, rfl⟩ := Nat.exists_eq_add_of_le' hn
  have hr := List.all_eq_true.1 (l64_ok h.next n) c (List.mem_range'_1.2 ⟨h1, by omega⟩)
  unfold l64 at hr
  split at hr
  · rename_i z h' e
    have hz := of_decide_eq_true hr
    obtain ⟨z, rfl⟩ : ∃ y : Nat, z = y := ⟨z.toNat, by omega⟩
    exact ok_run e ⟨rfl, fun r b hb => by simp [T.get] at hb⟩ fun g' hb fr => k g' z ⟨Nat.le_trans fr.2.1 (Nat.le_of_eq fr.1.1.symm), fun q hq _ => (fr.2.2 q hq (by simp [T.get])).2, fun _ => hb⟩ (by omega) (by omega)
  · cases hr
theorem p2_w {n z : Nat} (hn : 5 ≤ n) (h1 : 7 ≤ z) (h2 : z ≤ 10) {h : H} {K : V → H → Prop} (k : ∀ h' (t : Nat), But h h' none → t = 2 ∨ t = 3 → K (.i .i64 t) h') : Ok Tryz.prog n 167 [.i .i64 z] h K := by
  obtain ⟨n, rfl⟩ := Nat.exists_eq_add_of_le' hn
  have hr := List.all_eq_true.1 (p2_ok h.next n) z (List.mem_range'_1.2 ⟨h1, by omega⟩)
  unfold p2 at hr
  split at hr
  · rename_i t h' e
    have ht := of_decide_eq_true hr
    obtain ⟨t, rfl⟩ : ∃ y : Nat, t = y := ⟨t.toNat, by omega⟩
    exact ok_run e ⟨rfl, fun r b hb => by simp [T.get] at hb⟩ fun g' hb fr => k g' t ⟨Nat.le_trans fr.2.1 (Nat.le_of_eq fr.1.1.symm), fun q hq _ => (fr.2.2 q hq (by simp [T.get])).2, fun _ => hb⟩ (by omega)
  · cases hr
noncomputable def b2r (m d : Nat) (b : Bool) : Bool := match sem (mkX Tryz.prog) 100000 (d + 5) 169 [.b b] ⟨m, .l⟩ with
  | some (.i .i64 k, _) => decide (k = if b then 1 else 0)
  | _ => false
theorem b2r_ok (m d : Nat) : ([true, false].all (b2r m d)) = true := by kernel_rfl
theorem b2_w {n : Nat} (hn : 5 ≤ n) {b : Bool} {h : H} {K : V → H → Prop} (k : ∀ h', But h h' none → K (.i .i64 (if b then 1 else 0)) h') : Ok Tryz.prog n 169 [.b b] h K := by
  obtain ⟨n, rfl⟩ := Nat.exists_eq_add_of_le' hn
  have hr := List.all_eq_true.1 (b2r_ok h.next n) b (by cases b <;> simp)
  unfold b2r at hr
  split at hr
  · rename_i t h' e
    have ht := of_decide_eq_true hr
    subst ht
    exact ok_run e ⟨rfl, fun r b hb => by simp [T.get] at hb⟩ fun g' hb fr => k g' ⟨Nat.le_trans fr.2.1 (Nat.le_of_eq fr.1.1.symm), fun q hq _ => (fr.2.2 q hq (by simp [T.get])).2, fun _ => hb⟩
  · cases hr

theorem ir_l {sz r o n : Nat} {m : Nat} {k : IntKind} {κ : V → Prop} (h : m < n) : pw.ir n sz (.p r o) (.i k (m : Int)) κ = κ (.p r (o + m * sz)) := by
  rw [ir_p (by omega), Int.toNat_natCast]

/-- How many digits: three. -/
theorem num3_ok {n c : Nat} (hn : 6 ≤ n) (h1 : 100 ≤ c) (h2 : c < 1000) {h : H} {K : V → H → Prop} (p : P10 h) (k : ∀ h', But h h' none → K (.i .i64 3) h') : Ok Tryz.prog n 146 [.i .u64 c] h K := by
  obtain ⟨n, rfl⟩ := Nat.exists_eq_add_of_le' hn
  refine Ok.bd (K146 fun hbd => ?_)
  unfold F146
  simp only [cf_k]
  refine l64_w (by omega) h1 h2 fun g1 z f1 z1 z2 => ?_
  refine p2_w (by omega) z1 z2 fun g2 t f2 ht => ?_
  have f12 := f1.trans f2
  obtain ⟨l, ty, w, e1, e2, e3, e4⟩ := p.keep f12 (by simp)
  rcases ht with rfl | rfl
  · rw [ir_l (by decide), l1_a (x := .i .u64 100) e1 e2, ge_i, decide_eq_true (show (100 : Int) ≤ c by omega)]
    refine b2_w (by omega) fun g3 f3 => ?_
    rw [ad_64 (by decide)]
    exact fun _ => k g3 (f12.trans f3)
  · rw [ir_l (by decide), l1_a (x := .i .u64 1000) e1 e3, ge_i, decide_eq_false (show ¬ (1000 : Int) ≤ c by omega)]
    refine b2_w (by omega) fun g3 f3 => ?_
    rw [ad_64 (by decide)]
    exact fun _ => k g3 (f12.trans f3)

def smalls : Bs := (List.range 100).flatMap fun n => [dg (n / 10), dg (n % 10)]
theorem smalls_at {n : Nat} (h : n < 100) : (smalls.drop (2 * n)).take 2 = [dg (n / 10), dg (n % 10)] := by
  have : (List.range 100).all (fun n => (smalls.drop (2 * n)).take 2 == [dg (n / 10), dg (n % 10)]) = true := by decide +kernel
  exact eq_of_beq (List.all_eq_true.1 this n (List.mem_range.2 h))
theorem smalls_0 {n : Nat} (h : n < 100) : smalls[2 * n]? = some (dg (n / 10)) ∧ smalls[2 * n + 1]? = some (dg (n % 10)) := by
  have := smalls_at h
  have e1 : ((smalls.drop (2 * n)).take 2)[0]? = some (dg (n / 10)) := by rw [this]; rfl
  have e2 : ((smalls.drop (2 * n)).take 2)[1]? = some (dg (n % 10)) := by rw [this]; rfl
  rw [List.getElem?_take, if_pos (by decide), List.getElem?_drop] at e1 e2
  exact ⟨e1, e2⟩

/-- A small number. -/
theorem small_ok {n c : Nat} (hn : 1 ≤ n) (hc : c < 100) {h : H} {K : V → H → Prop} (k : K (.s (digs c)) h) : Ok Tryz.prog n 145 [.i .i64 c] h K := by
  obtain ⟨n, rfl⟩ := Nat.exists_eq_add_of_le' hn
  refine Ok.bd (K145 fun hbd => ?_)
  unfold F145
  simp only [c145]
  rw [lt_i]
  by_cases h10 : c < 10
  · rw [decide_eq_true (show (c : Int) < 10 by omega), cd_t, ad_64 (by omega), show (c : Int) + 1 = ((c + 1 : Nat) : Int) by omega, sc_s2 tt9 rfl (by omega) (by simp; omega)]
    rw [digs_lo h10] at k
    have : ∀ c, c < 10 → (List.drop c ([48, 49, 50, 51, 52, 53, 54, 55, 56, 57, 97, 98, 99, 100, 101, 102, 103, 104, 105, 106, 107, 108, 109, 110, 111, 112, 113, 114, 115, 116, 117, 118, 119, 120, 121, 122] : Bs)).take (c + 1 - c) = [dg c] := by decide
    rw [this c h10]
    exact fun _ => k
  · rw [decide_eq_false (show ¬ (c : Int) < 10 by omega), cd_f]
    unfold F145_3
    simp only [c145]
    rw [mu_64 (by omega), mu_64 (by omega), ad_64 (by omega), show (c : Int) * 2 + 2 = ((2 * c + 2 : Nat) : Int) by omega, show (c : Int) * 2 = ((2 * c : Nat) : Int) by omega, sc_s2 tt9 rfl (by omega) (by show 2 * c + 2 ≤ 200; omega)]
    have e := smalls_at (n := c) hc
    have es : smalls = [48, 48, 48, 49, 48, 50, 48, 51, 48, 52, 48, 53, 48, 54, 48, 55, 48, 56, 48, 57, 49, 48, 49, 49, 49, 50, 49, 51, 49, 52, 49, 53, 49, 54, 49, 55, 49, 56, 49, 57, 50, 48, 50, 49, 50, 50, 50, 51, 50, 52, 50, 53, 50, 54, 50, 55, 50, 56, 50, 57, 51, 48, 51, 49, 51, 50, 51, 51, 51, 52, 51, 53, 51, 54, 51, 55, 51, 56, 51, 57, 52, 48, 52, 49, 52, 50, 52, 51, 52, 52, 52, 53, 52, 54, 52, 55, 52, 56, 52, 57, 53, 48, 53, 49, 53, 50, 53, 51, 53, 52, 53, 53, 53, 54, 53, 55, 53, 56, 53, 57, 54, 48, 54, 49, 54, 50, 54, 51, 54, 52, 54, 53, 54, 54, 54, 55, 54, 56, 54, 57, 55, 48, 55, 49, 55, 50, 55, 51, 55, 52, 55, 53, 55, 54, 55, 55, 55, 56, 55, 57, 56, 48, 56, 49, 56, 50, 56, 51, 56, 52, 56, 53, 56, 54, 56, 55, 56, 56, 56, 57, 57, 48, 57, 49, 57, 50, 57, 51, 57, 52, 57, 53, 57, 54, 57, 55, 57, 56, 57, 57] := by decide +kernel
    rw [es] at e
    rw [show 2 * c + 2 - 2 * c = 2 by omega, e]
    rw [digs_hi (by omega), digs_lo (by omega)] at k
    exact fun _ => k


theorem ix_n {l : Bs} {n : Nat} {c : UInt8} {k : IntKind} {κ : V → Prop} (h : l[n]? = some c) : pw.ix (mkX Tryz.prog) 9 (.s l) (.i k (n : Int)) κ = κ (.i .u8 c.toNat) := ix_s tt9 rfl h
theorem sc_arr {t el : TypeId} {i j : TI} (ht : (mkX Tryz.prog).tt.get t = some i) {n : Nat} (hk : i.k = .arr n el) (hj : (mkX Tryz.prog).tt.get el = some j) {r o lo hi : Nat} {k k' : IntKind} (h1 : lo ≤ hi) (h2 : hi ≤ n) (h3 : lo < n) {κ : V → Prop} : pw.sc (mkX Tryz.prog) t (.p r o) (some (.i k (lo : Int))) (some (.i k' (hi : Int))) none κ = κ (.sl r (o + lo * j.sz) (hi - lo) (n - lo) false) := by
  have : slc (mkX Tryz.prog) t (.p r o) (some (.i k (lo : Int))) (some (.i k' (hi : Int))) none = some (.sl r (o + lo * j.sz) (hi - lo) (n - lo) false) := by
    simp only [slc, ti, ht, hk, hj, goS, bound_n, bound_i h2, bound_i h1]
    rw [beq_no (by omega), blt_of h3]
    rfl
  show oP (slc (mkX Tryz.prog) t (.p r o) (some (.i k (lo : Int))) (some (.i k' (hi : Int))) none) κ = _
  rw [this, oP_some]
theorem sc_24 {r : Nat} {k k' : IntKind} {κ : V → Prop} : pw.sc (mkX Tryz.prog) 183 (.p r 0) (some (.i k 1)) (some (.i k' 4)) none κ = κ (.sl r 1 3 23 false) := sc_arr (lo := 1) (hi := 4) (n := 24) tt183 rfl tt5 (by decide) (by decide) (by decide)
theorem cs_part {r o : Nat} {l : List V} {ty : TypeId} {w : Bool} {n c : Nat} {e : Bool} {bs : Bs} {h : H} {κ : V → Prop} (hg : h.mem.get r = some (.c l ty w)) (hs : sub l o n = some (u8s bs)) : pw.cs (mkX Tryz.prog) 60 9 (.sl r o n c e) h κ = κ (.s bs) := by
  simp only [pw, rdVw, ti_some _ tt60, ti_some _ tt9, ti_some _ tt5, hg, hs, bytesOf_u8s, oP]

theorem tt24 : (mkX Tryz.prog).tt.get 183 = some ⟨.arr 24 5, 24, 24, true, (some (List.replicate 24 .i)), List.replicate 24 (.i .u8 0), (.a (List.replicate 24 (.i .u8 0)))⟩ := tt183

theorem digs3 {c : Nat} (h1 : 100 ≤ c) (h2 : c < 1000) : digs c = [dg (c / 100), dg (c % 100 / 10), dg (c % 100 % 10)] := by
  rw [digs_hi (by omega), digs_hi (by omega), digs_lo (by omega)]
  rw [show c / 10 / 10 = c / 100 by omega, show c / 10 % 10 = c % 100 / 10 by omega, show c % 10 = c % 100 % 10 by omega]
  rfl

theorem mu_u32 {m n : Int} {t : TypeId} {x : X} {κ : V → Prop} (h : 0 ≤ m * n ∧ m * n ≤ 4294967295) : pw.mu x t (.i .u32 m) (.i .u32 n) κ = κ (.i .u32 (m * n)) := by
  rw [mu_i, wrap_u32', Int.emod_eq_of_lt (by omega) (by omega)]
theorem ad_u32 {m n : Int} {t : TypeId} {x : X} {κ : V → Prop} (h : 0 ≤ m + n ∧ m + n ≤ 4294967295) : pw.ad x t (.i .u32 m) (.i .u32 n) κ = κ (.i .u32 (m + n)) := by
  rw [ad_i, wrap_u32', Int.emod_eq_of_lt (by omega) (by omega)]
theorem qu_u32 {m n : Nat} {t : TypeId} {x : X} {κ : V → Prop} (h : m ≤ 4294967295 ∧ 1 ≤ n) : pw.qu x t (.i .u32 (m : Int)) (.i .u32 (n : Int)) κ = κ (.i .u32 ((m / n : Nat) : Int)) := by
  have hd : m / n ≤ m := Nat.div_le_self _ _
  rw [qu_i (by omega), wrap_u32']
  have e : ((m : Int).tdiv (n : Int)) = ((m / n : Nat) : Int) := rfl
  rw [e]
  generalize m / n = q at hd ⊢
  rw [Int.emod_eq_of_lt (by omega) (by omega)]
theorem re_u32 {m n : Nat} {t : TypeId} {x : X} {κ : V → Prop} (h : 1 ≤ n) : pw.re x t (.i .u32 (m : Int)) (.i .u32 (n : Int)) κ = κ (.i .u32 ((m % n : Nat) : Int)) := by
  rw [re_i (by omega)]
  rfl

theorem fmt_smalls : ([48, 48, 48, 49, 48, 50, 48, 51, 48, 52, 48, 53, 48, 54, 48, 55, 48, 56, 48, 57, 49, 48, 49, 49, 49, 50, 49, 51, 49, 52, 49, 53, 49, 54, 49, 55, 49, 56, 49, 57, 50, 48, 50, 49, 50, 50, 50, 51, 50, 52, 50, 53, 50, 54, 50, 55, 50, 56, 50, 57, 51, 48, 51, 49, 51, 50, 51, 51, 51, 52, 51, 53, 51, 54, 51, 55, 51, 56, 51, 57, 52, 48, 52, 49, 52, 50, 52, 51, 52, 52, 52, 53, 52, 54, 52, 55, 52, 56, 52, 57, 53, 48, 53, 49, 53, 50, 53, 51, 53, 52, 53, 53, 53, 54, 53, 55, 53, 56, 53, 57, 54, 48, 54, 49, 54, 50, 54, 51, 54, 52, 54, 53, 54, 54, 54, 55, 54, 56, 54, 57, 55, 48, 55, 49, 55, 50, 55, 51, 55, 52, 55, 53, 55, 54, 55, 55, 55, 56, 55, 57, 56, 48, 56, 49, 56, 50, 56, 51, 56, 52, 56, 53, 56, 54, 56, 55, 56, 56, 56, 57, 57, 48, 57, 49, 57, 50, 57, 51, 57, 52, 57, 53, 57, 54, 57, 55, 57, 56, 57, 57] : Bs) = smalls := by decide +kernel

/-- Three digits into an array from its second byte on. -/
theorem base10_ok {n c r : Nat} (hn : 1 ≤ n) (h1 : 100 ≤ c) (h2 : c < 1000) {h : H} {K : V → H → Prop} (hg : h.mem.get r = some (.c (List.replicate 24 (.i .u8 0)) 183 true))
    (k : ∀ h' l, h'.mem.get r = some (.c l 183 true) → l.length = 24 → sub l 1 3 = some (u8s (digs c)) → But h h' (some r) → K (.t []) h') : Ok Tryz.prog n 147 [.sl r 1 3 23 false, .i .u64 c] h K := by
  obtain ⟨n, rfl⟩ := Nat.exists_eq_add_of_le' hn
  refine Ok.bd (K147 fun hbd => ?_)
  unfold F147
  rw [ls_sl tt60 rfl]
  rw [show (100000 : Nat) = 99999 + 1 from rfl, S147_105, ge_i, decide_eq_false (show ¬ (8 : Int) ≤ ((3 : Nat) : Int) by decide), cd_f]
  unfold F147_6
  rw [ci_u32 (by omega), ge_i, decide_eq_false (show ¬ (4 : Int) ≤ ((3 : Nat) : Int) by decide), cd_f]
  unfold F147_13
  rw [ge_i, decide_eq_true (show (2 : Int) ≤ ((3 : Nat) : Int) by decide), cd_t]
  have q1 : ∀ κ : V → Prop, pw.re (mkX Tryz.prog) 196 (.i .u32 (c : Int)) (.i .u32 100) κ = κ (.i .u32 ((c % 100 : Nat) : Int)) := fun κ => re_u32 (n := 100) (by decide)
  have q2 : ∀ κ : V → Prop, pw.qu (mkX Tryz.prog) 196 (.i .u32 (c : Int)) (.i .u32 100) κ = κ (.i .u32 ((c / 100 : Nat) : Int)) := fun κ => qu_u32 (n := 100) (by omega)
  rw [q1, mu_u32 (by omega), q2, show ((c % 100 : Nat) : Int) * 2 = ((2 * (c % 100) : Nat) : Int) by omega, sb_64 (by decide), sb_64 (by decide), ad_u32 (by omega), show ((2 * (c % 100) : Nat) : Int) + 1 = ((2 * (c % 100) + 1 : Nat) : Int) by omega]
  obtain ⟨s0, s1⟩ := smalls_0 (n := c % 100) (by omega)
  simp only [c147, fmt_smalls]
  rw [ix_n s1, ix_n s0]
  rw [is_sl1 (by decide)]
  refine s1_a hg (by simp) rfl fun g1 hg1 f1 => ?_
  rw [is_sl1 (by decide)]
  refine s1_a hg1 (by simp) rfl fun g2 hg2 f2 => ?_
  rw [sb_64 (by decide)]
  unfold F147_17
  rw [gt_i, decide_eq_true (show (0 : Int) < ((3 : Nat) : Int) - 2 by decide), cd_t, ad_u32 (by omega), ci_u8 (by omega), is_sl1 (by decide)]
  refine s1_a hg2 (by simp) rfl fun g3 hg3 f3 => ?_
  have e3 : (48 : Int) + ((c / 100 : Nat) : Int) = ((dg (c / 100)).toNat : Int) := by rw [dg_nat (by omega)]; omega
  refine fun _ => k g3 _ hg3 (by simp) ?_ ((f1.trans f2).trans f3)
  rw [digs3 h1 h2, e3]
  simp only [List.replicate, List.set]
  rfl

/-- FormatInt. -/
theorem fmt_ok {n c : Nat} (hn : 9 ≤ n) (h2 : c < 1000) {h : H} {K : V → H → Prop} (p : P10 h) (k : ∀ h', But h h' none → K (.s (digs c)) h') : Ok Tryz.prog n 122 [.i .i64 c, .i .i64 10] h K := by
  obtain ⟨n, rfl⟩ := Nat.exists_eq_add_of_le' hn
  refine Ok.bd (K122 fun hbd => ?_)
  unfold F122
  rw [eq_i, decide_eq_true rfl, cd_t, le_i, decide_eq_true (show (0 : Int) ≤ c by omega)]
  simp only [g1_t]
  rw [lt_i]
  by_cases h1 : c < 100
  · rw [decide_eq_true (show (c : Int) < 100 by omega)]
    simp only [pk_t, cd_t, cf_k]
    refine small_ok (by omega) h1 ?_
    exact fun _ => k h (But.refl _ _)
  · rw [decide_eq_false (show ¬ (c : Int) < 100 by omega)]
    simp only [pk_t, cd_f]
    unfold F122_22
    refine al_a tt24 fun r g1 hg1 f1 r0 r1 => ?_
    rw [ci_u64 (by omega), lt_i, decide_eq_false (show ¬ (c : Int) < 0 by omega), cd_f]
    unfold F122_28
    rw [cf_k]
    refine num3_ok (by omega) (by omega) h2 (p.keep f1 (by simp)) fun g2 f2 => ?_
    rw [ad_64 (by decide)]
    have hg2 := f2.get r1 (by simp) hg1
    rw [show (1 : Int) + 3 = 4 from rfl, sc_24]
    try simp only [cf_k]
    refine base10_ok (by omega) (by omega) h2 hg2 fun g3 l hg3 hl hs f3 => ?_
    rw [lt_i, decide_eq_false (show ¬ (c : Int) < 0 by omega), cd_f]
    unfold F122_40
    rw [ad_64 (by decide), show (1 : Int) + 3 = 4 from rfl, sc_24]
    rw [cs_part hg3 hs]
    exact fun _ => k g3 ((f1.trans f2).over f3 (.inr fun z ez => by cases ez; exact r0))

theorem itoa_ok {n c : Nat} (hn : 11 ≤ n) (h2 : c < 1000) {h : H} {K : V → H → Prop} (p : P10 h) (k : ∀ h', But h h' none → K (.s (digs c)) h') : Ok Tryz.prog n 58 [.i .i64 c] h K := by
  obtain ⟨n, rfl⟩ := Nat.exists_eq_add_of_le' hn
  refine K58 fun hbd => ?_
  unfold F58
  rw [cf_k]
  refine K95 fun hbd => ?_
  unfold F95
  rw [cf_k]
  exact fmt_ok (by omega) h2 p k
/-- A number, as the actions tell it. -/
theorem numw_ok {n c : Nat} (hn : 11 ≤ n) (h2 : c < 1000) {h : H} {K : V → H → Prop} (p : P10 h) (k : ∀ h', But h h' none → K (.s (digs c)) h') : Ok Tryz.prog n 59 [.i .i64 c] h K := by
  obtain ⟨n, rfl⟩ := Nat.exists_eq_add_of_le' hn
  refine K59 fun hbd => ?_
  unfold F59
  rw [cf_k]
  refine K96 fun hbd => ?_
  unfold F96
  rw [cf_k]
  exact fmt_ok (by omega) h2 p k
end Go.Proofs.YtbkhielalbbopaaGreatDoor.Wb
