/- Numbers written by the program, from 0 to 999. -/
import Derived.Test.YtbkhielalbbopaaGreatDoorZe1
set_option linter.unusedSimpArgs false
set_option linter.unusedVariables false
set_option linter.unusedSectionVars false
set_option linter.unnecessarySimpa false
set_option maxRecDepth 100000
namespace Go.Proofs.YtbkhielalbbopaaGreatDoor.Wb
open Go Go.Am Go.Am.Xm

theorem l64_w {n c : Nat} (hn : 5 ≤ n) (h1 : 100 ≤ c) (h2 : c < 1000) {h : H} {K : V → H → Prop} (k : ∀ h' (z : Nat), But h h' none → 7 ≤ z → z ≤ 10 → K (.i .i64 z) h') : Ok Tryz.prog n 168 [.i .u64 c] h K := by
  obtain ⟨n, rfl⟩ := Nat.exists_eq_add_of_le' hn
  have hr := List.all_eq_true.1 (l64_ok h.next n) c (List.mem_range'_1.2 ⟨h1, by omega⟩)
  unfold l64 at hr
  split at hr
  · rename_i z h' e
    have hz := of_decide_eq_true hr
    obtain ⟨z, rfl⟩ : ∃ y : Nat, z = y := ⟨z.toNat, by omega⟩
    exact ok_run e ⟨rfl, fun r b hb => by simp [T.get] at hb⟩ fun g' hb fr => k g' z ⟨Nat.le_trans fr.2.1 (Nat.le_of_eq fr.1.1.symm), fun q hq _ => (fr.2.2 q hq (by simp [T.get])).2, fun _ => hb⟩ (by omega) (by omega)
  · cases hr
theorem p2_w {n z : Nat} (hn : 5 ≤ n) (h1 : 7 ≤ z) (h2 : z ≤ 10) {h : H} {K : V → H → Prop} (k : ∀ h' (t : Nat), But h h' none → t = 2 ∨ t = 3 → K (.i .i64 t) h') : Ok Tryz.prog n 167 [.i .i64 z] h K := by
  obtain ⟨n, rfl⟩ := Nat.exists_eq_add_of_le' hn
  have hr := List.all_eq_true.1 (p2_ok h.next n) z (List.mem_range'_1.2 ⟨h1, by omega⟩)
  unfold p2 at hr
  split at hr
  · rename_i t h' e
    have ht := of_decide_eq_true hr
    obtain ⟨t, rfl⟩ : ∃ y : Nat, t = y := ⟨t.toNat, by omega⟩
    exact ok_run e ⟨rfl, fun r b hb => by simp [T.get] at hb⟩ fun g' hb fr => k g' t ⟨Nat.le_trans fr.2.1 (Nat.le_of_eq fr.1.1.symm), fun q hq _ => (fr.2.2 q hq (by simp [T.get])).2, fun _ => hb⟩ (by omega)
  · cases hr
noncomputable def b2r (m d : Nat) (b : Bool) : Bool := match sem (mkX Tryz.prog) 100000 (d + 5) 169 [.b b] ⟨m, .l⟩ with
  | some (.i .i64 k, _) => decide (k = if b then 1 else 0)
  | _ => false
theorem b2r_ok (m d : Nat) : ([true, false].all (b2r m d)) = true := by kernel_rfl
theorem b2_w {n : Nat} (hn : 5 ≤ n) {b : Bool} {h : H} {K : V → H → Prop} (k : ∀ h', But h h' none → K (.i .i64 (if b then 1 else 0)) h') : Ok Tryz.prog n 169 [.b b] h K := by
  obtain ⟨n, rfl⟩ := Nat.exists_eq_add_of_le' hn
  have hr := List.all_eq_true.1 (b2r_ok h.next n) b (by cases b <;> simp)
  unfold b2r at hr
  split at hr
  · rename_i t h' e
    have ht := of_decide_eq_true hr
    subst ht
    exact ok_run e ⟨rfl, fun r b hb => by simp [T.get] at hb⟩ fun g' hb fr => k g' ⟨Nat.le_trans fr.2.1 (Nat.le_of_eq fr.1.1.symm), fun q hq _ => (fr.2.2 q hq (by simp [T.get])).2, fun _ => hb⟩
  · cases hr

theorem ir_l {sz r o n : Nat} {m : Nat} {k : IntKind} {κ : V → Prop} (h : m < n) : pw.ir n sz (.p r o) (.i k (m : Int)) κ = κ (.p r (o + m * sz)) := by
  rw [ir_p (by omega), Int.toNat_natCast]

/-- How many digits: three. -/
theorem num3_ok {n c : Nat} (hn : 6 ≤ n) (h1 : 100 ≤ c) (h2 : c < 1000) {h : H} {K : V → H → Prop} (p : P10 h) (k : ∀ h', But h h' none → K (.i .i64 3) h') : Ok Tryz.prog n 146 [.i .u64 c] h K := by
  obtain ⟨n, rfl⟩ := Nat.exists_eq_add_of_le' hn
  refine Ok.bd (K146 fun hbd => ?_)
  unfold F146
  simp only [cf_k]
  refine l64_w (by omega) h1 h2 fun g1 z f1 z1 z2 => ?_
  refine p2_w (by omega) z1 z2 fun g2 t f2 ht => ?_
  have f12 := f1.trans f2
  obtain ⟨l, ty, w, e1, e2, e3, e4⟩ := p.keep f12 (by simp)
  rcases ht with rfl | rfl
  · rw [ir_l (by decide), l1_a (x := .i .u64 100) e1 e2, ge_i, decide_eq_true (show (100 : Int) ≤ c by omega)]
    refine b2_w (by omega) fun g3 f3 => ?_
    rw [ad_64 (by decide)]
    exact fun _ => k g3 (f12.trans f3)
  · rw [ir_l (by decide), l1_a (x := .i .u64 1000) e1 e3, ge_i, decide_eq_false (show ¬ (1000 : Int) ≤ c by omega)]
    refine b2_w (by omega) fun g3 f3 => ?_
    rw [ad_64 (by decide)]
    exact fun _ => k g3 (f12.trans f3)

def smalls : Bs := (List.range 100).flatMap fun n => [dg (n / 10), dg (n % 10)]
theorem smalls_at {n : Nat} (h : n < 100) : (smalls.drop (2 * n)).take 2 = [dg (n / 10), dg (n % 10)] := by
  have : (List.range 100).all (fun n => (smalls.drop (2 * n)).take 2 == [dg (n / 10), dg (n % 10)]) = true := by decide +kernel
  exact eq_of_beq (List.all_eq_true.1 this n (List.mem_range.2 h))
theorem smalls_0 {n : Nat} (h : n < 100) : smalls[2 * n]? = some (dg (n / 10)) ∧ smalls[2 * n + 1]? = some (dg (n % 10)) := by
  have := smalls_at h
  have e1 : ((smalls.drop (2 * n)).take 2)[0]? = some (dg (n / 10)) := by rw [this]; rfl
  have e2 : ((smalls.drop (2 * n)).take 2)[1]? = some (dg (n % 10)) := by rw [this]; rfl
  rw [List.getElem?_take, if_pos (by decide), List.getElem?_drop] at e1 e2
  exact ⟨e1, e2⟩

/-- A small number. -/
theorem small_ok {n c : Nat} (hn : 1 ≤ n) (hc : c < 100) {h : H} {K : V → H → Prop} (k : K (.s (digs c)) h) : Ok Tryz.prog n 145 [.i .i64 c] h K := by
  obtain ⟨n, rfl⟩ := Nat.exists_eq_add_of_le' hn
  refine Ok.bd (K145 fun hbd => ?_)
  unfold F145
  simp only [c145]
  rw [lt_i]
  by_cases h10 : c < 10
  · rw [decide_eq_true (show (c : Int) < 10 by omega), cd_t, ad_64 (by omega), show (c : Int) + 1 = ((c + 1 : Nat) : Int) by omega, sc_s2 tt9 rfl (by omega) (by simp; omega)]
    rw [digs_lo h10] at k
    have : ∀ c, c < 10 → (List.drop c ([48, 49, 50, 51, 52, 53, 54, 55, 56, 57, 97, 98, 99, 100, 101, 102, 103, 104, 105, 106, 107, 108, 109, 110, 111, 112, 113, 114, 115, 116, 117, 118, 119, 120, 121, 122] : Bs)).take (c + 1 - c) = [dg c] := by decide
    rw [this c h10]
    exact fun _ => k
  · rw [decide_eq_false (show ¬ (c : Int) < 10 by omega), cd_f]
    unfold F145_3
    simp only [c145]
    rw [mu_64 (by omega), mu_64 (by omega), ad_64 (by omega), show (c : Int) * 2 + 2 = ((2 * c + 2 : Nat) : Int) by omega, show (c : Int) * 2 = ((2 * c : Nat) : Int) by omega, sc_s2 tt9 rfl (by omega) (by show 2 * c + 2 ≤ 200; omega)]
    have e := smalls_at (n := c) hc
    have es : smalls = [48, 48, 48, 49, 48, 50, 48, 51, 48, 52, 48, 53, 48, 54, 48, 55, 48, 56, 48, 57, 49, 48, 49, 49, 49, 50, 49, 51, 49, 52, 49, 53, 49, 54, 49, 55, 49, 56, 49, 57, 50, 48, 50, 49, 50, 50, 50, 51, 50, 52, 50, 53, 50, 54, 50, 55, 50, 56, 50, 57, 51, 48, 51, 49, 51, 50, 51, 51, 51, 52, 51, 53, 51, 54, 51, 55, 51, 56, 51, 57, 52, 48, 52, 49, 52, 50, 52, 51, 52, 52, 52, 53, 52, 54, 52, 55, 52, 56, 52, 57, 53, 48, 53, 49, 53, 50, 53, 51, 53, 52, 53, 53, 53, 54, 53, 55, 53, 56, 53, 57, 54, 48, 54, 49, 54, 50, 54, 51, 54, 52, 54, 53, 54, 54, 54, 55, 54, 56, 54, 57, 55, 48, 55, 49, 55, 50, 55, 51, 55, 52, 55, 53, 55, 54, 55, 55, 55, 56, 55, 57, 56, 48, 56, 49, 56, 50, 56, 51, 56, 52, 56, 53, 56, 54, 56, 55, 56, 56, 56, 57, 57, 48, 57, 49, 57, 50, 57, 51, 57, 52, 57, 53, 57, 54, 57, 55, 57, 56, 57, 57] := by decide +kernel
    rw [es] at e
    rw [show 2 * c + 2 - 2 * c = 2 by omega, e]
    rw [digs_hi (by omega), digs_lo (by omega)] at k
    exact fun _ => k
end Go.Proofs.YtbkhielalbbopaaGreatDoor.Wb
