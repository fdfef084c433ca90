/- GateStrangers: the law. -/
import Derived.Test.YtcebbmappnbegaaGreatDoorGs4
import Derived.Test.YtcebbmappnbegaaGreatDoorWs
set_option linter.unusedSimpArgs false
set_option linter.unusedVariables false
set_option linter.unusedSectionVars false
set_option linter.unnecessarySimpa false
set_option maxRecDepth 100000
namespace Go.Proofs.YtcebbmappnbegaaGreatDoor.Wb
open Go Go.Am

theorem bl_lan {x : X} (T : Tx x) {κ : V → Prop} : pw.bl x 31 [(0, (.i .u8 2)), (1, (.i .u8 0)), (2, (.i .u8 0)), (3, (.i .u8 0)), (4, (.i .u8 0)), (5, (.i .u8 1))] κ = κ (.a (u8s lanM)) := by
  show oP (blW x 31 _) κ = _
  rw [bl_arr (cs := u8s lanM) T.t31 rfl T.t5 rfl rfl]; rfl
theorem bl_wan {x : X} (T : Tx x) {κ : V → Prop} : pw.bl x 31 [(0, (.i .u8 2)), (1, (.i .u8 0)), (2, (.i .u8 0)), (3, (.i .u8 0)), (4, (.i .u8 0)), (5, (.i .u8 2))] κ = κ (.a (u8s wanM)) := by
  show oP (blW x 31 _) κ = _
  rw [bl_arr (cs := u8s wanM) T.t31 rfl T.t5 rfl rfl]; rfl
theorem ir_0 {r : Nat} {κ : V → Prop} : pw.ir 6 1 (.p r 0) (.i .i64 0) κ = κ (.p r 0) := ir_p ⟨by omega, by omega⟩

set_option maxHeartbeats 16000000 in
theorem mid_ok {x : X} (T : Tx x) {h : H} (hbd : Bd h) {W G r : Nat} {gl : List V} (a : Gw h W G gl) {ts body : List UInt8} {side t m : Int} {bv : V} {ty : TypeId} {w : Bool} (t6 : ts.length = 6) (hr : h.mem.get r = some (.c (u8s ts) ty w)) (hb : BytesAt h bv body) (hl : body.length ≤ 1400) (ht : 0 ≤ t ∧ t ≤ 65535) (hm : 0 ≤ m ∧ m ≤ 2000)
    {K : V → H → Prop} (c : ∀ h', K (.b true) h') : F9_22 pw x (Ok Tryz.prog 99) K (.i .i64 side) (.i .i64 t) bv (.i .i64 m) (.p r 0) (.p W 0) h := by
  have tl : ∀ mine : Bool, _ → Tl9 x K (.i .i64 side) (.i .i64 t) bv (.i .i64 m) (.p r 0) (.p W 0) (.b mine) h := fun mine hmine => tail_ok T hbd a t6 hr hb hl ht hm (mine := mine) hmine c
  have hln : ∀ κ, pw.ln 6 (.p r 0) h κ = κ (.a (u8s ts)) := fun κ => ln_w hr (by rw [u8s_len, t6])
  have e1 : ∀ κ, pw.eq x 31 (.a (u8s ts)) (.a (u8s lanM)) κ = κ (.b (ts == lanM)) := fun κ => eq6 T t6 rfl
  have e2 : ∀ κ, pw.eq x 31 (.a (u8s ts)) (.a (u8s wanM)) κ = κ (.b (ts == wanM)) := fun κ => eq6 T t6 rfl
  have hl1 : ∀ κ, pw.l1 (.p r 0) h κ = κ (.i .u8 ((ts.getD 0 0).toNat : Int)) := fun κ => l1_a hr (u8s_get (by omega))
  have ho : decide ((((ts.getD 0 0).toNat : Int)).tmod 2 = 1) = oddB ts := by
    rw [Int.tmod_eq_emod_of_nonneg (by omega)]; rfl
  have hre : ∀ κ, pw.re x 5 (.i .u8 ((ts.getD 0 0).toNat : Int)) (.i .u8 2) κ = κ (.i .u8 ((((ts.getD 0 0).toNat : Int)).tmod 2)) := fun κ => re_i (by decide)
  have sides : side = 0 ∨ side = 1 ∨ (side ≠ 0 ∧ side ≠ 1) := by omega
  have n10 : decide ((1 : Int) = 0) = false := rfl
  have n01 : decide ((0 : Int) = 1) = false := rfl
  unfold F9_22
  rcases sides with rfl | rfl | ⟨s0, s1⟩ <;> cases c1 : (ts == lanM) <;> cases c2 : (ts == wanM) <;> cases c3 : oddB ts <;>
    simp only [hln, bl_lan T, bl_wan T, e1, e2, c1, c2, eq_i, decide_true, decide_false, n10, n01, g1_t, g1_f, g1_u, g0_t, g0_f, g0_u, pk_t, pk_f, ir_0, hl1, hre, ho, c3, *]
  all_goals first
    | (have q := tl true (fun e => by cases e)
       unfold Tl9 at q
       simp only [hln, bl_lan T, bl_wan T, eq_i, decide_true, decide_false, g1_t, g1_f, g1_u, g0_t, g0_f, g0_u, pk_t, pk_f, ir_0, hl1, hre, ho] at q
       exact q)
    | (have q := tl false (fun _ => by simp [macS, c1, c2, c3, *])
       unfold Tl9 at q
       simp only [hln, bl_lan T, bl_wan T, eq_i, decide_true, decide_false, g1_t, g1_f, g1_u, g0_t, g0_f, g0_u, pk_t, pk_f, ir_0, hl1, hre, ho] at q
       exact q)

theorem law_ok {h : H} (h16 : 16 ≤ h.next) {ts body : List UInt8} {side t m : Int} {bv : V} (t6 : ts.length = 6) (hb : BytesAt h bv body) (hlen : body.length ≤ 9223372036854775807)
    (haw : ∀ {g : H} {K : V → H → Prop}, 16 ≤ g.next → (∀ g', Bd g' → But g g' none → K (.b true) g') → Ok Tryz.prog 99 18 [] g K)
    (hup : ∀ {g : H} {K : V → H → Prop}, 16 ≤ g.next → (∀ g' W G gl, Bd g' → But g g' none → Gw g' W G gl → K (.p W 0) g') → Ok Tryz.prog 99 20 [] g K)
    {K : V → H → Prop} (c : ∀ h', K (.b true) h') : Ok Tryz.prog 100 9 [.i .i64 side, .a (u8s ts), .i .i64 t, bv, .i .i64 m] h K := by
  refine Ok.bd (K9 fun hbd => ?_)
  have bl := hb.lt hbd
  unfold F9
  have T := txx
  generalize mkX Tryz.prog = x at T ⊢
  refine bx_a (cs := u8s ts) rfl fun r h1 g1 f1 l1 l1' => ?_
  simp only [cf_k]
  refine haw (Nat.le_trans h16 f1.1) fun h2 hb2 f2 => ?_
  simp only [nt_b, Bool.not_true, cd_f]
  unfold F9_8
  have f02 := f1.trans f2
  have hby := hb.keep bl f02 (.inr rfl)
  rw [bytes_len T.t54 rfl hby]
  by_cases q1 : (1400 : Int) < body.length
  · simp only [gt_i, decide_eq_true q1, g0_t, pk_t, cd_t]
    exact fun _ => c _
  by_cases q2 : t < 0
  · simp only [gt_i, lt_i, decide_eq_false q1, decide_eq_true q2, g0_t, g0_f, pk_t, pk_f, cd_t]
    exact fun _ => c _
  by_cases q3 : 65535 < t
  · simp only [gt_i, lt_i, decide_eq_false q1, decide_eq_false q2, decide_eq_true q3, g0_t, g0_f, pk_t, pk_f, cd_t]
    exact fun _ => c _
  by_cases q4 : m < 0
  · simp only [gt_i, lt_i, decide_eq_false q1, decide_eq_false q2, decide_eq_false q3, decide_eq_true q4, g0_t, g0_f, pk_t, pk_f, cd_t]
    exact fun _ => c _
  by_cases q5 : 2000 < m
  · simp only [gt_i, lt_i, decide_eq_false q1, decide_eq_false q2, decide_eq_false q3, decide_eq_false q4, decide_eq_true q5, g0_t, g0_f, pk_t, pk_f, cd_t]
    exact fun _ => c _
  simp only [gt_i, lt_i, decide_eq_false q1, decide_eq_false q2, decide_eq_false q3, decide_eq_false q4, decide_eq_false q5, g0_f, pk_f, cd_f]
  unfold F9_14
  simp only [cf_k]
  refine hup (Nat.le_trans h16 f02.1) fun h3 W G gl hb3 f3 a => ?_
  rw [eq_pn T.t42 rfl]
  simp only [cd_f]
  have f13 := f2.trans f3
  exact mid_ok T hb3 a t6 (f13.get l1' (by simp) g1) (hby.keep (fun z hz => Nat.lt_of_lt_of_le (bl z hz) f02.1) f3 (.inr rfl)) (by omega) (by omega) (by omega) fun h' _ => c h'
end Go.Proofs.YtcebbmappnbegaaGreatDoor.Wb
