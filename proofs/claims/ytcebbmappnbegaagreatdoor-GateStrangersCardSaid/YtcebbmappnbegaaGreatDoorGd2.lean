/- One act of the world around the gateway, whole. -/
import Derived.Test.YtcebbmappnbegaaGreatDoorGd1
import Derived.Test.YtcebbmappnbegaaGreatDoorM5
set_option linter.unusedSimpArgs false
set_option linter.unusedVariables false
set_option linter.unusedSectionVars false
set_option linter.unnecessarySimpa false
set_option maxRecDepth 100000
namespace Go.Am
section
variable {x : X} {t el : TypeId} {i j : TI} {h : H} {κh : V → H → Prop}
theorem ap2_ns (ht : x.tt.get t = some i) (hk : i.k = .sl el) (hj : x.tt.get el = some j) (hz : j.sz = 2) (hb : j.by_ ≤ 100) {r2 : Nat} {c d : V} {ty : TypeId} {w e : Bool} {n2 : Nat} (hg : h.mem.get r2 = some (.c [c, d] ty w))
    (K : ∀ h', h'.next = h.next + 1 → h'.mem.get h.next = some (.c [c, d] el true) → But h h' none → κh (.sl h.next 0 1 1 true) h') : pw.ap x t t .ns (.sl r2 0 1 n2 e) h κh := by
  refine ap_e (v' := .sl h.next 0 1 1 true) (h' := ⟨h.next + 1, h.mem.put h.next (some (.c [c, d] el true))⟩) ?_ (K _ rfl get_same (But.new _ _ _))
  have hb2 : 1 * j.by_ ≤ most := by simp only [most]; omega
  simp only [appendH, ti_some _ ht, hk, ti_some _ hj, lenV, fcells, hg, hz, Nat.one_mul, sub, List.drop_zero, takeN]
  unfold appA
  simp only [Nat.ble_eq_true_of_le hb2, show Nat.beq 1 0 = false from rfl, cond_false, show Nat.ble 1 most = true from rfl, Bool.and_self, cond_true, newB_eq]
theorem ap_nn (ht : x.tt.get t = some i) (hk : i.k = .sl el) (hj : x.tt.get el = some j) (K : κh .ns h) : pw.ap x t t .ns .ns h κh := by
  refine ap_e (v' := .ns) (h' := h) ?_ K
  simp only [appendH, ti_some _ ht, hk, ti_some _ hj, lenV, fcells, show Nat.beq 0 0 = true from rfl, cond_true]
  unfold appA
  simp only [show Nat.beq 0 0 = true from rfl, cond_true]
end
theorem Has.keep {g g' : H} {nx m : Nat} {l : List (Nat × B)} (a : Has g nx l) (hb : Bd g) (f : But g g' none) (hn : g'.next = m) : Has g' m l := ⟨hn, fun r b h => f.get (hb _ _ (a.mem r b h)) (by simp) (a.mem r b h)⟩
end Go.Am
namespace Go.Proofs.YtcebbmappnbegaaGreatDoor.Wb
open Go Go.Am

set_option maxHeartbeats 4000000 in
theorem do_ok1 {op m secs : Int} (ho : op = 2 ∨ op = 3) {g : H} {nx n1 n2 n3 n4 rf ro : Nat} {l0 l1 l2 l3 rest : List (Nat × B)} {e1 has : Bool} {side1 b1 sideO bO : V} {tf te : TypeId} {env : List V} {i0 i1 i2 i3 : Int}
    (a : Has g nx l0) (w0 : WB ∈ l0) (s1 : stepB (mkX Tryz.prog) 97 61 [.p 202 0, .a (actV op m secs)] (nx + 1) l0 (.sl rf 0 1 1 e1) n1 l1 = true)
    (w1 : WB ∈ l1) (f1 : (rf, B.c [side1, b1] tf true) ∈ l1) (s2 : stepB (mkX Tryz.prog) 97 35 [.p 103 0, side1, b1] n1 l1 (.sl ro 0 1 1 true) n2 l2 = true)
    (w2 : WB ∈ l2) (o2 : (ro, B.c [sideO, bO] 73 true) ∈ l2) (s3 : stepB (mkX Tryz.prog) 97 62 [.p 202 0, sideO, bO] (n2 + 1) l2 (.t []) n3 l3 = true) (w3 : WB ∈ l3)
    (s4 : stepB (mkX Tryz.prog) 97 21 [.p 103 0] n3 l3 (.t [.a [.i .u8 i0, .i .u8 i1, .i .u8 i2, .i .u8 i3], .b has]) n4 (WB :: (202, .c env te true) :: rest) = true) (hr : ∀ p ∈ rest, p.1 ≠ 202) (hl : 77 ≤ env.length)
    {K : V → H → Prop} (k : ∀ g' v, Bd g' → Has g' (n4 + 1) (WB :: (202, .c ((env.take 72 ++ [V.i .u8 i0, V.i .u8 i1, V.i .u8 i2, V.i .u8 i3] ++ env.drop 76).set 76 (.b has)) te true) :: rest) → K v g') :
    Ok Tryz.prog 98 23 [.p 203 0, .a (actV op m secs)] g K := by
  refine Ok.bd (K23 fun hbd => ?_)
  unfold F23
  have t27 := tt27
  have t51 := tt51
  have t73 := tt73
  have t94 := tt94
  generalize mkX Tryz.prog = x at t27 t51 t73 t94 ⊢
  refine a.bx hbd (cs := actV op m secs) rfl fun g1 hb1 a1 m1 => ?_
  simp only [fa_p, Nat.zero_add]
  rw [l1_a m1 (x := .i .i64 op) rfl]
  simp only [eq_i, decide_eq_false (show ¬(op = 0) by omega), decide_eq_false (show ¬(op = 8) by omega), decide_eq_false (show ¬(op = 12) by omega), cd_f, nl_p, fa_p, Nat.zero_add]
  have wb1 := a1.mem _ _ w0
  rw [l1_a wb1 (x := .p 202 0) rfl, ln_w (sz := 8) m1 rfl]
  simp only [cf_k]
  refine ok_step s1 a1 fun g2 hb2 a2 _ => ?_
  rw [S23_127, ls_sl t94 rfl]
  simp only [lt_i, show decide ((0 : Int) < ((1 : Nat) : Int)) = true from rfl, cd_t]
  unfold F23_132
  simp only [nl_p, fa_p, Nat.zero_add]
  rw [l1_a (a2.mem _ _ w1) (x := .p 103 0) rfl, is_sl (by omega)]
  simp only [nl_p, fa_p, Nat.zero_add, Int.toNat_zero, Nat.zero_mul]
  rw [l1_a (a2.mem _ _ f1) (x := side1) rfl, is_sl (by omega)]
  simp only [nl_p, fa_p, Nat.zero_add, Int.toNat_zero, Nat.zero_mul]
  rw [l1_a (a2.mem _ _ f1) (x := b1) rfl]
  simp only [cf_k]
  refine ok_step s2 a2 fun g3 hb3 a3 _ => ?_
  refine ap2_ns t51 rfl t73 rfl (by decide) (a3.mem _ _ o2) fun g4 n4' m4 f4 => ?_
  have a4 := a3.keep hb3 f4 (m := n2 + 1) (by rw [n4', a3.next])
  have hb4 := f4.2.2 hb3
  rw [a3.next] at m4 ⊢
  unfold F23_137
  simp (disch := omega) only [ad_64]
  rw [S23_127, ls_sl t94 rfl]
  simp only [lt_i, show decide ((0 : Int) + 1 < ((1 : Nat) : Int)) = false from rfl, cd_f]
  unfold F23_6
  rw [S23_42, ls_sl t51 rfl]
  simp only [lt_i, show decide ((0 : Int) < ((1 : Nat) : Int)) = true from rfl, cd_t]
  unfold F23_46
  simp only [nl_p, fa_p, Nat.zero_add]
  rw [l1_a (a4.mem _ _ w2) (x := .p 202 0) rfl, is_sl (by omega)]
  simp only [nl_p, fa_p, Nat.zero_add, Int.toNat_zero, Nat.zero_mul]
  rw [l1_a m4 (x := sideO) rfl, is_sl (by omega)]
  simp only [nl_p, fa_p, Nat.zero_add, Int.toNat_zero, Nat.zero_mul]
  rw [l1_a m4 (x := bO) rfl]
  simp only [cf_k]
  refine ok_step s3 a4 fun g5 hb5 a5 _ => ?_
  unfold F23_50
  simp (disch := omega) only [ad_64]
  rw [S23_42, ls_sl t51 rfl]
  simp only [lt_i, show decide ((0 : Int) + 1 < ((1 : Nat) : Int)) = false from rfl, cd_f]
  exact wan_ok t27 a5 w3 s4 hr hl fun g' hb' a' _ => k g' _ hb' a'

set_option maxHeartbeats 4000000 in
theorem do_ok0 {op m secs : Int} (ho : op = 2 ∨ op = 3) {g : H} {nx n1 n2 n4 rf : Nat} {l0 l1 l2 rest : List (Nat × B)} {e1 has : Bool} {side1 b1 : V} {tf te : TypeId} {env : List V} {i0 i1 i2 i3 : Int}
    (a : Has g nx l0) (w0 : WB ∈ l0) (s1 : stepB (mkX Tryz.prog) 97 61 [.p 202 0, .a (actV op m secs)] (nx + 1) l0 (.sl rf 0 1 1 e1) n1 l1 = true)
    (w1 : WB ∈ l1) (f1 : (rf, B.c [side1, b1] tf true) ∈ l1) (s2 : stepB (mkX Tryz.prog) 97 35 [.p 103 0, side1, b1] n1 l1 .ns n2 l2 = true) (w2 : WB ∈ l2)
    (s4 : stepB (mkX Tryz.prog) 97 21 [.p 103 0] n2 l2 (.t [.a [.i .u8 i0, .i .u8 i1, .i .u8 i2, .i .u8 i3], .b has]) n4 (WB :: (202, .c env te true) :: rest) = true) (hr : ∀ p ∈ rest, p.1 ≠ 202) (hl : 77 ≤ env.length)
    {K : V → H → Prop} (k : ∀ g' v, Bd g' → Has g' (n4 + 1) (WB :: (202, .c ((env.take 72 ++ [V.i .u8 i0, V.i .u8 i1, V.i .u8 i2, V.i .u8 i3] ++ env.drop 76).set 76 (.b has)) te true) :: rest) → K v g') :
    Ok Tryz.prog 98 23 [.p 203 0, .a (actV op m secs)] g K := by
  refine Ok.bd (K23 fun hbd => ?_)
  unfold F23
  have t27 := tt27
  have t51 := tt51
  have t73 := tt73
  have t94 := tt94
  generalize mkX Tryz.prog = x at t27 t51 t73 t94 ⊢
  refine a.bx hbd (cs := actV op m secs) rfl fun g1 hb1 a1 m1 => ?_
  simp only [fa_p, Nat.zero_add]
  rw [l1_a m1 (x := .i .i64 op) rfl]
  simp only [eq_i, decide_eq_false (show ¬(op = 0) by omega), decide_eq_false (show ¬(op = 8) by omega), decide_eq_false (show ¬(op = 12) by omega), cd_f, nl_p, fa_p, Nat.zero_add]
  have wb1 := a1.mem _ _ w0
  rw [l1_a wb1 (x := .p 202 0) rfl, ln_w (sz := 8) m1 rfl]
  simp only [cf_k]
  refine ok_step s1 a1 fun g2 hb2 a2 _ => ?_
  rw [S23_127, ls_sl t94 rfl]
  simp only [lt_i, show decide ((0 : Int) < ((1 : Nat) : Int)) = true from rfl, cd_t]
  unfold F23_132
  simp only [nl_p, fa_p, Nat.zero_add]
  rw [l1_a (a2.mem _ _ w1) (x := .p 103 0) rfl, is_sl (by omega)]
  simp only [nl_p, fa_p, Nat.zero_add, Int.toNat_zero, Nat.zero_mul]
  rw [l1_a (a2.mem _ _ f1) (x := side1) rfl, is_sl (by omega)]
  simp only [nl_p, fa_p, Nat.zero_add, Int.toNat_zero, Nat.zero_mul]
  rw [l1_a (a2.mem _ _ f1) (x := b1) rfl]
  simp only [cf_k]
  refine ok_step s2 a2 fun g3 hb3 a3 _ => ?_
  refine ap_nn t51 rfl t73 ?_
  unfold F23_137
  simp (disch := omega) only [ad_64]
  rw [S23_127, ls_sl t94 rfl]
  simp only [lt_i, show decide ((0 : Int) + 1 < ((1 : Nat) : Int)) = false from rfl, cd_f]
  unfold F23_6
  rw [S23_42]
  have e0 : ∀ κ : V → Prop, pw.ls x 51 .ns κ = κ (.i .i64 0) := fun κ => by simp only [pw, ti_some _ t51, lenP, oP]
  rw [e0]
  simp only [lt_i, show decide ((0 : Int) < 0) = false from rfl, cd_f]
  exact wan_ok t27 a3 w2 s4 hr hl fun g' hb' a' _ => k g' _ hb' a'
end Go.Proofs.YtcebbmappnbegaaGreatDoor.Wb
