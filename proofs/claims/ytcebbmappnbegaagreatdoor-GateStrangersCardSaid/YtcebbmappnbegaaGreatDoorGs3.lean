/- A frame is put; the gateway takes a frame that it does not answer. -/
import Derived.Test.YtcebbmappnbegaaGreatDoorGs2
set_option linter.unusedSimpArgs false
set_option linter.unusedVariables false
set_option linter.unusedSectionVars false
set_option linter.unnecessarySimpa false
set_option maxRecDepth 100000
namespace Go.Proofs.YtcebbmappnbegaaGreatDoor.Wb
open Go Go.Am

theorem dec8 (c d : UInt8) : decide ((c.toNat : Int) = (d.toNat : Int)) = (c == d) := by
  by_cases h : c = d
  · subst h; simp
  · rw [beq_eq_false_iff_ne.2 h, decide_eq_false fun e => h (UInt8.toNat_inj.1 (by omega))]
theorem eq6 {x : X} (T : Tx x) {ts us : List UInt8} (h1 : ts.length = 6) (h2 : us.length = 6) {κ : V → Prop} : pw.eq x 31 (.a (u8s ts)) (.a (u8s us)) κ = κ (.b (ts == us)) := by
  obtain ⟨t0, t1, t2, t3, t4, t5, rfl⟩ := list6 h1
  obtain ⟨s0, s1, s2, s3, s4, s5, rfl⟩ := list6 h2
  simp only [u8s, List.map_cons, List.map_nil, pw, bin, ti, T.t31, eqOp, eqF, eqK, if_true, oP, dec8]
  congr 2
theorem an_1u8 {x : X} {t : TypeId} {m : Int} {κ : V → Prop} : pw.an x t (.i .u8 m) (.i .u8 1) κ = κ (.i .u8 (m % 2)) := an_mask 1 (by decide) fun z h1 h2 => by rw [wrap_u8', Int.emod_eq_of_lt (by omega) (by omega)]

def lanM : List UInt8 := [2, 0, 0, 0, 0, 1]
def wanM : List UInt8 := [2, 0, 0, 0, 0, 2]
def oddB (ts : List UInt8) : Bool := decide (((ts.getD 0 0).toNat : Int) % 2 = 1)
def macS (side : Int) : List UInt8 := if side = 0 then lanM else wanM
theorem macS_len (side : Int) : (macS side).length = 6 := by unfold macS; split <;> rfl

theorem group_ok {n : Nat} (hn : 1 ≤ n) {ts : List UInt8} (h6 : ts.length = 6) {h : H} {K : V → H → Prop} (c : ∀ h', Bd h' → But h h' none → K (.b (oddB ts)) h') : Ok Tryz.prog n 164 [.a (u8s ts)] h K := by
  obtain ⟨n, rfl⟩ := Nat.exists_eq_add_of_le' hn
  obtain ⟨t0, t1, t2, t3, t4, t5, rfl⟩ := list6 h6
  refine Ok.bd (K164 fun hbd => ?_)
  unfold F164
  have T := txx
  generalize mkX Tryz.prog = x at T ⊢
  refine bx_a (cs := u8s [t0, t1, t2, t3, t4, t5]) rfl fun r h1 g1 f1 l1 l1' => ?_
  rw [ir_p (by omega)]
  simp only [Int.toNat_zero, Nat.zero_mul, Nat.add_zero]
  rw [l1_a g1 (x := .i .u8 t0.toNat) rfl, an_1u8, eq_i]
  exact fun hb => c h1 hb f1
theorem mine_ok {n : Nat} (hn : 2 ≤ n) {ts us : List UInt8} (h6 : ts.length = 6) (u6 : us.length = 6) {h : H} {K : V → H → Prop} (c : ∀ h', Bd h' → But h h' none → K (.b (ts == us || oddB ts)) h') : Ok Tryz.prog n 83 [.a (u8s ts), .a (u8s us)] h K := by
  obtain ⟨n, rfl⟩ := Nat.exists_eq_add_of_le' hn
  refine Ok.bd (K83 fun hbd => ?_)
  unfold F83
  have T := txx
  generalize mkX Tryz.prog = x at T ⊢
  refine bx_a (cs := u8s ts) rfl fun r h1 g1 f1 l1 l1' => ?_
  refine bx_a (cs := u8s us) rfl fun r2 h2 g2 f2 l2 l2' => ?_
  rw [ln_w (f2.get l1' (by simp) g1) (by rw [u8s_len, h6]), ln_w g2 (by rw [u8s_len, u6]), eq6 T h6 u6]
  cases he : (ts == us) with
  | true =>
    simp only [g0_t, pk_t]
    rw [he] at c
    exact fun hb => c h2 hb (f1.trans f2)
  | false =>
    simp only [g0_f, pk_f]
    rw [ln_w (f2.get l1' (by simp) g1) (by rw [u8s_len, h6])]
    simp only [cf_k]
    refine group_ok (by omega) h6 fun h3 hb3 f3 => ?_
    rw [he] at c
    exact fun hb => c h3 hb ((f1.trans f2).trans f3)
theorem gmac_ok {n : Nat} (hn : 1 ≤ n) {h : H} {G : Nat} {side : Int} {gl : List V} {ty : TypeId} {w : Bool} (hg : h.mem.get G = some (.c gl ty w)) (hl : gl.length = 51) (m1 : (gl.drop 9).take 6 = u8s lanM) (m2 : (gl.drop 15).take 6 = u8s wanM)
    {K : V → H → Prop} (c : ∀ h', Bd h' → But h h' none → K (.a (u8s (macS side))) h') : Ok Tryz.prog n 84 [.p G 0, .i .i64 side] h K := by
  obtain ⟨n, rfl⟩ := Nat.exists_eq_add_of_le' hn
  refine Ok.bd (K84 fun hbd => ?_)
  have hG := hbd _ _ hg
  unfold F84
  have T := txx
  generalize mkX Tryz.prog = x at T ⊢
  refine al_a T.t31 fun r h1 g1 f1 l1 l1' => ?_
  have hg1 := f1.get hG (by simp) hg
  rw [eq_i]
  by_cases hs : side = 0
  · rw [decide_eq_true hs]
    simp only [cd_t, nl_p, fa_p, Nat.zero_add]
    rw [ln_a hg1 (by omega), m1]
    refine sn_w g1 (cs := u8s lanM) rfl rfl rfl rfl fun h2 g2 f2 => ?_
    rw [ln_w (sz := 6) g2 rfl]
    have : macS side = lanM := if_pos hs
    rw [this] at c
    exact fun hb => c h2 hb (bn1 f1 f2 fun z hz => by cases hz; exact l1)
  · rw [decide_eq_false hs]
    simp only [cd_f]
    unfold F84_4
    simp only [nl_p, fa_p, Nat.zero_add]
    rw [ln_a hg1 (by omega), m2]
    refine sn_w g1 (cs := u8s wanM) rfl rfl rfl rfl fun h2 g2 f2 => ?_
    rw [ln_w (sz := 6) g2 rfl]
    have : macS side = wanM := if_neg hs
    rw [this] at c
    exact fun hb => c h2 hb (bn1 f1 f2 fun z hz => by cases hz; exact l1)
theorem set_same {l : List V} {i : Nat} {v : V} (h : l[i]? = some v) : l.set i v = l := by
  obtain ⟨h1, h2⟩ := List.getElem?_eq_some_iff.1 h
  rw [← h2, List.set_getElem_self]
theorem told_ok {n : Nat} (hn : 1 ≤ n) {h : H} {G : Nat} {gl : List V} {ty : TypeId} (hg : h.mem.get G = some (.c gl ty true)) (g50 : gl[50]? = some .ns)
    {K : V → H → Prop} (c : ∀ h', Bd h' → But h h' none → K .ns h') : Ok Tryz.prog n 87 [.p G 0] h K := by
  obtain ⟨n, rfl⟩ := Nat.exists_eq_add_of_le' hn
  refine Ok.bd (K87 fun hbd => ?_)
  unfold F87
  have T := txx
  generalize mkX Tryz.prog = x at T ⊢
  simp only [nl_p, fa_p, Nat.zero_add]
  rw [l1_a hg g50]
  refine s1_a hg (List.getElem?_eq_some_iff.1 g50).1 rfl fun h1 g1 f1 => ?_
  rw [set_same g50] at g1
  refine fun hb => c h1 hb ⟨f1.1, fun q hq _ => ?_, f1.2.2⟩
  by_cases e : q = G
  · subst e; rw [g1, hg]
  · exact f1.2.1 q hq fun e2 => e (by cases e2; rfl)

/-- A frame's type, read. -/
def tyN (bs : List UInt8) : Int := (((bs.drop 12).getD 0 0).toNat : Int) * 256 + (((bs.drop 12).getD 1 0).toNat : Int)
set_option maxHeartbeats 4000000 in
/-- The gateway takes a frame that it has no use for. -/
theorem frame_ok {n : Nat} (hn : 6 ≤ n) {h : H} {G : Nat} {side : Int} {v : V} {bs : List UInt8} {gl : List V} {ty : TypeId} (hg : h.mem.get G = some (.c gl ty true)) (hgl : gl.length = 51) (m1 : (gl.drop 9).take 6 = u8s lanM) (m2 : (gl.drop 15).take 6 = u8s wanM) (g50 : gl[50]? = some .ns)
    (hb : BytesAt h v bs) (hl : bs.length ≤ 100000) (hq : ¬(14 ≤ bs.length ∧ bs.length ≤ 1514) ∨ (side ≠ 0 ∧ side ≠ 1) ∨ (bs.take 6 == macS side || oddB (bs.take 6)) = false ∨ (tyN bs ≠ 2054 ∧ tyN bs ≠ 2048))
    {K : V → H → Prop} (c : ∀ h', Bd h' → But h h' none → K .ns h') : Ok Tryz.prog n 35 [.p G 0, .i .i64 side, v] h K := by
  obtain ⟨n, rfl⟩ := Nat.exists_eq_add_of_le' hn
  refine Ok.bd (K35 fun hbd => ?_)
  have hG := hbd _ _ hg
  unfold F35
  have T := txx
  generalize mkX Tryz.prog = x at T ⊢
  simp only [cf_k]
  have sides : side = 0 ∨ side = 1 ∨ (side ≠ 0 ∧ side ≠ 1) := by omega
  refine get_ok (by omega) hb hl (fun _ h1 e hb1 f1 he => ?_) (fun h14 h1 bv hb1 f1 ho hc => ?_)
  · simp only [ex_t, List.getElem?_cons_zero, List.getElem?_cons_succ, oP_some]
    refine al_a T.t203 fun r h2 g2 f2 l2 l2' => ?_
    refine sn_w g2 (cs := noFrame) rfl rfl rfl rfl fun h3 g3 f3 => ?_
    have f13 : But h h3 none := bn1 (f1.trans f2) f3 fun z hz => by cases hz; exact Nat.le_trans f1.1 l2
    rcases sides with rfl | rfl | ⟨s0, s1⟩
    · simp only [ne_i, decide_true, Bool.not_true, g1_f, pk_f, g0_f, decide_eq_false he, Bool.not_false, g0_t, pk_t, cd_t]
      exact fun hb3 => c h3 hb3 f13
    · simp only [ne_i, decide_true, Bool.not_true, g1_t, pk_t, pk_f, g0_f, decide_eq_false he, show decide ((1 : Int) = 0) = false from rfl, Bool.not_false, g0_t, cd_t]
      exact fun hb3 => c h3 hb3 f13
    · simp only [ne_i, decide_eq_false s0, decide_eq_false s1, Bool.not_false, g1_t, pk_t, g0_t, cd_t]
      exact fun hb3 => c h3 hb3 f13
  · simp only [ex_t, List.getElem?_cons_zero, List.getElem?_cons_succ, oP_some]
    have e1 : (bs.take 6).length = 6 := by simp; omega
    have e2 : ((bs.drop 6).take 6).length = 6 := by simp; omega
    have hty : tyN bs = (((bs.drop 12).getD 0 0).toNat : Int) * 256 + (((bs.drop 12).getD 1 0).toNat : Int) := rfl
    rw [← hty]
    generalize tyN bs = tn at hq
    generalize bs.take 6 = ts at e1 hq
    generalize (bs.drop 6).take 6 = fs at e2
    obtain ⟨t0, t1, t2, t3, t4, t5, rfl⟩ := list6 e1
    obtain ⟨s0, s1, s2, s3, s4, s5, rfl⟩ := list6 e2
    refine al_a T.t203 fun r h2 g2 f2 l2 l2' => ?_
    have e11 : (u8s [t0, t1, t2, t3, t4, t5] ++ u8s [s0, s1, s2, s3, s4, s5] ++ [V.i .i64 tn, bv]).all oneV = true := by
      simp only [List.all_append, u8s_one, List.all_cons, ho]; rfl
    refine sn_w g2 (cs := u8s [t0, t1, t2, t3, t4, t5] ++ u8s [s0, s1, s2, s3, s4, s5] ++ [.i .i64 tn, bv]) rfl rfl rfl e11 fun h3 g3 f3 => ?_
    have f13 : But h h3 none := bn1 (f1.trans f2) f3 fun z hz => by cases hz; exact Nat.le_trans f1.1 l2
    have hr3 : r < h3.next := Nat.lt_of_lt_of_le l2' f3.1
    -- behind the sides
    have rest : ¬(side ≠ 0 ∧ side ≠ 1) → pw.ln 6 (.p r 0) h3 fun v53 => pw.cf (keepC (Ok Tryz.prog (n + 5))) 84 [.p G 0, .i .i64 side] h3 fun v59 h59 => pw.cf (Ok Tryz.prog (n + 5)) 83 [v53, v59] h59 fun v61 h61 => pw.nt v61 fun v63 => pw.pk (.b false) (.b true) v63 fun v65 => pw.cd v65 (Bd h61 → K .ns h61) (F35_13 pw x (Ok Tryz.prog (n + 5)) (fun v h' => Bd h' → K v h') (.p G 0) (.i .i64 side) (.p r 0) h61) := by
      intro hs
      rw [ln_a g3 (show 0 + 6 ≤ 14 by omega)]
      show pw.cf _ _ _ _ _
      simp only [cf_k]
      show Ok Tryz.prog (n + 5) 84 _ h3 fun v h' => KeepH h3 h' ∧ _
      refine gmac_ok (by omega) (f13.get hG (by simp) hg) hgl m1 m2 fun h4 hb4 f4 => ?_
      refine ⟨fun q hq => f4.2.1 q hq (by simp), ?_⟩
      show Ok Tryz.prog (n + 5) 83 [.a (u8s [t0, t1, t2, t3, t4, t5]), _] h4 _
      refine mine_ok (by omega) rfl (macS_len _) fun h5 hb5 f5 => ?_
      have f15 : But h h5 none := (f13.trans f4).trans f5
      cases hm : ([t0, t1, t2, t3, t4, t5] == macS side || oddB [t0, t1, t2, t3, t4, t5]) with
      | false =>
        simp only [nt_b, Bool.not_false, pk_f, cd_t]
        exact fun hb => c h5 hb f15
      | true =>
        simp only [nt_b, Bool.not_true, pk_f, cd_f]
        have ht : tn ≠ 2054 ∧ tn ≠ 2048 := by
          rcases hq with h1 | h1 | h1 | h1
          · exact absurd h14 h1
          · exact absurd h1 hs
          · rw [hm] at h1; cases h1
          · exact h1
        unfold F35_13
        simp only [fa_p, Nat.zero_add]
        have g5 := f5.get (Nat.lt_of_lt_of_le hr3 f4.1) (by simp) (f4.get hr3 (by simp) g3)
        rw [l1_a g5 (x := .i .i64 tn) rfl]
        simp only [eq_i, decide_eq_false ht.1, decide_eq_false ht.2, cd_f]
        unfold F35_17
        simp only [cf_k]
        refine told_ok (by omega) (f15.get hG (by simp) hg) g50 fun h6 hb6 f6 => ?_
        exact fun hb => c h6 hb (f15.trans f6)
    rcases sides with rfl | rfl | ⟨s0, s1⟩
    · simp only [ne_i, decide_true, Bool.not_true, g1_f, pk_f, g0_f, fa_p, Nat.zero_add]
      exact rest (by omega)
    · simp only [ne_i, decide_true, Bool.not_true, g1_t, pk_t, pk_f, g0_f, show decide ((1 : Int) = 0) = false from rfl, Bool.not_false, fa_p, Nat.zero_add]
      exact rest (by omega)
    · simp only [ne_i, decide_eq_false s0, decide_eq_false s1, Bool.not_false, g1_t, pk_t, g0_t, cd_t]
      exact fun hb3 => c h3 hb3 f13
end Go.Proofs.YtcebbmappnbegaaGreatDoor.Wb
