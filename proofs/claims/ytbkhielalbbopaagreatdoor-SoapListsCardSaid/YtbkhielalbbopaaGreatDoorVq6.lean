/- Addresses written by the program; what is told. -/
import Derived.Test.YtbkhielalbbopaaGreatDoorVq5
set_option linter.unusedSimpArgs false
set_option linter.unusedVariables false
set_option linter.unusedSectionVars false
set_option linter.unnecessarySimpa false
set_option maxRecDepth 100000
namespace Go.Proofs.YtbkhielalbbopaaGreatDoor.Wb
open Go Go.Am Go.Am.Xm

theorem ix_ad {x : Ad} {n : Nat} {v : V} (h : (encA x)[n]? = some v) (hn : n < 4) {κ : V → Prop} : pw.ix (mkX Tryz.prog) 41 (.a (encA x)) (.i .i64 (n : Int)) κ = κ v := by
  have e : ((n : Int)) = Int.ofNat n := rfl
  simp only [pw, ixW, ti_some _ tt41, e, ti_some _ tt5]
  match n, hn, h with
  | 0, _, h => cases h; rfl
  | 1, _, h => cases h; rfl
  | 2, _, h => cases h; rfl
  | 3, _, h => cases h; rfl

theorem at_rnd {n m i : Nat} (hn : 11 ≤ n) (hi : i < 4) {x : Ad} {c : Nat} (hc : (encA x)[i]? = some (.i .u8 c)) (hc2 : c < 256) {s : Bs} (hs : s.length ≤ 100) {h : H} {K : V → H → Prop} (hbd : Bd h) (p : P10 h)
    (k : ∀ h', Bd h' → But h h' none → F29_11 pw (mkX Tryz.prog) (Ok Tryz.prog n) K m (.s ((if i = 0 then s else s ++ [46]) ++ digs c)) (.a (encA x)) (.i .i64 ((i + 1 : Nat) : Int)) h') :
    F29_11 pw (mkX Tryz.prog) (Ok Tryz.prog n) K (m + 1) (.s s) (.a (encA x)) (.i .i64 (i : Nat)) h := by
  have hd := digs_len 2 c (by omega)
  rw [S29_11, lt_i, decide_eq_true (show ((i : Nat) : Int) < 4 by omega), cd_t]
  unfold F29_16
  rw [ix_ad hc hi, gt_i]
  have nxt : ∀ t : Bs, t.length ≤ 101 → (∀ h', Bd h' → But h h' none → F29_11 pw (mkX Tryz.prog) (Ok Tryz.prog n) K m (.s (t ++ digs c)) (.a (encA x)) (.i .i64 ((i + 1 : Nat) : Int)) h') → F29_30 pw (mkX Tryz.prog) (Ok Tryz.prog n) K (F29_11 pw (mkX Tryz.prog) (Ok Tryz.prog n) K m) (.s t) (.i .u8 c) (.a (encA x)) (.i .i64 (i : Nat)) h := by
    intro t ht kk
    unfold F29_30
    rw [ci_64 (by omega), cf_k]
    refine Ok.bd (itoa_ok (by omega) (by omega) p fun h' f => fun hb => ?_)
    rw [ad_s (by omega)]
    unfold F29_20
    rw [ad_64 (by omega), show (i : Int) + 1 = ((i + 1 : Nat) : Int) by omega]
    exact kk h' hb f
  by_cases h0 : i = 0
  · rw [decide_eq_false (show ¬ (0 : Int) < (i : Int) by omega), cd_f]
    rw [if_pos h0] at k
    exact nxt s (by omega) k
  · rw [decide_eq_true (show (0 : Int) < (i : Int) by omega), cd_t]
    rw [if_neg h0] at k
    rw [show cstW (wL (wR (wL (wR (wL (wL (wR (wR (wL (wL (wR (wL (wR (wR (bdyW Tryz.f29))))))))))))))) 1 1 = .s [46] by kernel_rfl, ad_s (by simp; omega)]
    exact nxt (s ++ [46]) (by simp; omega) k

theorem ptext_ok {n : Nat} (hn : 12 ≤ n) {a b c d : Nat} (ha : a < 256) (hb : b < 256) (hc : c < 256) (hd : d < 256) {h : H} {K : V → H → Prop} (p : P10 h) (k : ∀ h', Bd h' → But h h' none → K (.s (adrT a b c d)) h') : Ok Tryz.prog n 29 [.a (encA ⟨a, b, c, d⟩)] h K := by
  obtain ⟨n, rfl⟩ := Nat.exists_eq_add_of_le' (show 1 ≤ n by omega)
  refine Ok.bd (K29 (n := n) fun hbd => ?_)
  unfold F29
  refine bx_a (cs := encA ⟨a, b, c, d⟩) rfl fun r h2 g2 f2 _ _ => ?_
  rw [ln_w (sz := 4) g2 rfl]
  have hbd2 := f2.2.2 hbd
  have p2 := p.keep f2 (by simp)
  have x1 := digs_len 2 a (by omega)
  have x2 := digs_len 2 b (by omega)
  have x3 := digs_len 2 c (by omega)
  refine at_rnd (i := 0) (x := ⟨a, b, c, d⟩) (c := a) (by omega) (by omega) rfl ha (by simp) hbd2 p2 fun h3 hbd3 f3 => ?_
  have p3 := p2.keep f3 (by simp)
  rw [if_pos rfl, List.nil_append]
  refine at_rnd (i := 1) (x := ⟨a, b, c, d⟩) (c := b) (by omega) (by omega) rfl hb (by omega) hbd3 p3 fun h4 hbd4 f4 => ?_
  have p4 := p3.keep f4 (by simp)
  rw [if_neg (by decide)]
  refine at_rnd (i := 2) (x := ⟨a, b, c, d⟩) (c := c) (by omega) (by omega) rfl hc (by simp; omega) hbd4 p4 fun h5 hbd5 f5 => ?_
  have p5 := p4.keep f5 (by simp)
  rw [if_neg (by decide)]
  refine at_rnd (i := 3) (x := ⟨a, b, c, d⟩) (c := d) (by omega) (by omega) rfl hd (by simp; omega) hbd5 p5 fun h6 hbd6 f6 => ?_
  rw [if_neg (by decide), S29_11, lt_i, decide_eq_false (show ¬ (((3 + 1 : Nat) : Int) < 4) by omega), cd_f]
  unfold F29_5
  have e : digs a ++ [46] ++ digs b ++ [46] ++ digs c ++ [46] ++ digs d = adrT a b c d := by simp [adrT]
  rw [e]
  exact fun _ => k h6 hbd6 ((((f2.trans f3).trans f4).trans f5).trans f6)

/-! ### What is told of -/
def toldE (e : Mp) : Bool := decide (e.kd ≠ 1) && decide (e.p ≠ 1)
theorem told_ok {n : Nat} (hn : 1 ≤ n) {e : Mp} {h : H} {K : V → H → Prop} (k : ∀ h', Bd h' → But h h' none → K (.b (toldE e)) h') : Ok Tryz.prog n 66 [.a (encM e)] h K := by
  obtain ⟨n, rfl⟩ := Nat.exists_eq_add_of_le' hn
  refine Ok.bd (K66 fun hbd => ?_)
  unfold F66
  refine bx_a (cs := encM e) rfl fun q h1 g1 f1 _ _ => ?_
  have r7 : ∀ κ : V → Prop, pw.l1 (.p q (0 + 7)) h1 κ = κ (.i .i64 e.kd) := fun κ => l1_a g1 rfl
  have r0 : ∀ κ : V → Prop, pw.l1 (.p q (0 + 0)) h1 κ = κ (.i .i64 e.p) := fun κ => l1_a g1 rfl
  by_cases c1 : e.kd = 1
  · simp (disch := omega) only [ws, fa_p, r7, r0, ne_i, decide_eq_true c1, Bool.not_true]
    intro hb
    have := k h1 hb f1
    rw [toldE, show decide (e.kd ≠ 1) = false by simp [c1], Bool.false_and] at this
    exact this
  · by_cases c2 : e.p = 1
    · simp (disch := omega) only [ws, fa_p, r7, r0, ne_i, decide_eq_false c1, decide_eq_true c2, Bool.not_true, Bool.not_false]
      intro hb
      have := k h1 hb f1
      rw [toldE, show decide (e.p ≠ 1) = false by simp [c2], Bool.and_false] at this
      exact this
    · simp (disch := omega) only [ws, fa_p, r7, r0, ne_i, decide_eq_false c1, decide_eq_false c2, Bool.not_false]
      intro hb
      have := k h1 hb f1
      rw [toldE, show decide (e.p ≠ 1) = true by simp [c2], show decide (e.kd ≠ 1) = true by simp [c1]] at this
      exact this
theorem cl70_ok {n : Nat} (hn : 2 ≤ n) {e : Mp} {h : H} {K : V → H → Prop} (k : ∀ h', Bd h' → But h h' none → K (.b (!toldE e)) h') : Ok Tryz.prog n 70 [.a (encM e)] h K := by
  obtain ⟨n, rfl⟩ := Nat.exists_eq_add_of_le' hn
  refine Ok.bd (K70 (n := n + 1) fun hbd => ?_)
  unfold F70
  refine bx_a (cs := encM e) rfl fun q h1 g1 f1 _ _ => ?_
  rw [ln_w (sz := 9) g1 rfl, cf_k]
  refine told_ok (by omega) fun h2 hbd2 f2 => ?_
  rw [nt_b]
  exact fun hb => k h2 hb (f1.trans f2)
end Go.Proofs.YtbkhielalbbopaaGreatDoor.Wb
