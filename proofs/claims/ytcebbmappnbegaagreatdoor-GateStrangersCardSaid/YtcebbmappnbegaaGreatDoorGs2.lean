/- A frame, read and put. -/
import Derived.Test.YtcebbmappnbegaaGreatDoorGs1
set_option linter.unusedSimpArgs false
set_option linter.unusedVariables false
set_option linter.unusedSectionVars false
set_option linter.unnecessarySimpa false
set_option maxRecDepth 100000
namespace Go.Am
theorem bn1 {h0 h h' : H} {c : Option Nat} (f0 : But h0 h none) (f : But h h' c) (hc : ∀ z, c = some z → h0.next ≤ z) : But h0 h' none := by
  refine ⟨Nat.le_trans f0.1 f.1, fun q hq _ => ?_, f.2.2 ∘ f0.2.2⟩
  rw [f.2.1 q (Nat.lt_of_lt_of_le hq f0.1) (fun e => by have := hc q e.symm; omega)]
  exact f0.2.1 q hq (by simp)
theorem bl_st {x : X} {t : TypeId} {i : TI} {fs : List (Nat × TypeId × Nat)} {ps l : List (Nat × V)} {cs : List V} (ht : x.tt.get t = some i) (hk : i.k = .st fs) (hp : placesSt fs ps = some l) (hf : fillA i.zero l = some cs) : blW x t ps = some (.a cs) := by
  simp only [blW, ti_some _ ht, hk, hp, hf]
theorem list6 {α : Type} {l : List α} (h : l.length = 6) : ∃ a b c d e f, l = [a, b, c, d, e, f] := by
  match l, h with
  | [a, b, c, d, e, f], _ => exact ⟨a, b, c, d, e, f, rfl⟩
end Go.Am
namespace Go.Proofs.YtcebbmappnbegaaGreatDoor.Wb
open Go Go.Am

/-- Two bytes as a number. -/
theorem num2_ok {n : Nat} (hn : 2 ≤ n) {h : H} {N R : Nat} {bs : List UInt8} (r : Rd h N R bs) (h2 : 2 ≤ bs.length) (hl : bs.length ≤ 100000) {K : V → H → Prop}
    (c : ∀ h', Bd h' → Rd h' N R (bs.drop 2) → But h h' (some R) → K (.i .u32 (((bs.getD 0 0).toNat : Int) * 256 + ((bs.getD 1 0).toNat : Int))) h') : Ok Tryz.prog n 274 [.p R 0, .i .i64 2] h K := by
  obtain ⟨n, rfl⟩ := Nat.exists_eq_add_of_le' hn
  refine Ok.bd (K274 fun hbd => ?_)
  unfold F274
  have T := txx
  generalize mkX Tryz.prog = x at T ⊢
  simp only [cf_k]
  refine rb_ok (k := 2) (by omega) r h2 hl fun h1 v q hb1 r1 f1 hv hq hq1 hq2 => ?_
  have hby : BytesAt h1 v (bs.take 2) := Vec.bytes hv
  have e2 : (bs.take 2).length = 2 := by simp; omega
  have b0 := byt_lt bs 0
  have b1 := byt_lt bs 1
  have d0 : ((bs.take 2).getD 0 0) = bs.getD 0 0 := by simp [List.getD_eq_getElem?_getD, List.getElem?_take]
  have d1 : ((bs.take 2).getD 1 0) = bs.getD 1 0 := by simp [List.getD_eq_getElem?_getD, List.getElem?_take]
  rw [bytes_len T.t54 rfl hby, e2]
  rw [S274_14]
  simp (disch := omega) only [ws, dec_t, cd_t]
  unfold F274_20
  rw [bytes_get hby (m := 0) (i := 0) rfl (by omega), d0]
  rw [sl_8u (by omega), ci_u32 (by omega), or_8u (by omega)]
  unfold F274_25
  simp (disch := omega) only [ws]
  rw [S274_14]
  simp (disch := omega) only [ws, dec_t, cd_t]
  unfold F274_20
  rw [show (0 : Int) + 1 = 1 from rfl]
  rw [bytes_get hby (m := 1) (i := 1) rfl (by omega), d1]
  rw [show (0 : Int) * 256 + ((bs.getD 0 0).toNat : Int) = ((bs.getD 0 0).toNat : Int) by omega]
  rw [sl_8u (by omega), ci_u32 (by omega), or_8u (by omega)]
  unfold F274_25
  simp (disch := omega) only [ws]
  rw [S274_14]
  simp (disch := omega) only [ws, dec_f, cd_f]
  unfold F274_5
  exact fun hb => c h1 hb1 r1 f1
theorem u16_ok {n : Nat} (hn : 3 ≤ n) {h : H} {N R : Nat} {bs : List UInt8} (r : Rd h N R bs) (h2 : 2 ≤ bs.length) (hl : bs.length ≤ 100000) {K : V → H → Prop}
    (c : ∀ h', Bd h' → Rd h' N R (bs.drop 2) → But h h' (some R) → K (.i .i64 (((bs.getD 0 0).toNat : Int) * 256 + ((bs.getD 1 0).toNat : Int))) h') : Ok Tryz.prog n 161 [.p R 0] h K := by
  obtain ⟨n, rfl⟩ := Nat.exists_eq_add_of_le' hn
  refine Ok.bd (K161 fun hbd => ?_)
  have b0 := byt_lt bs 0
  have b1 := byt_lt bs 1
  unfold F161
  have T := txx
  generalize mkX Tryz.prog = x at T ⊢
  simp only [cf_k]
  refine num2_ok (by omega) r h2 hl fun h1 hb1 r1 f1 => ?_
  rw [ci_64 (by omega)]
  exact fun _ => c h1 hb1 r1 f1
theorem left_ok {n : Nat} (hn : 1 ≤ n) {h : H} {N R : Nat} {bs : List UInt8} (r : Rd h N R bs) {K : V → H → Prop} (c : K (.i .i64 bs.length) h) : Ok Tryz.prog n 163 [.p R 0] h K := by
  obtain ⟨n, rfl⟩ := Nat.exists_eq_add_of_le' hn
  obtain ⟨h1, h2, v, h3, h4, h5⟩ := r
  refine K163 fun hbd => ?_
  unfold F163
  have T := txx
  generalize mkX Tryz.prog = x at T ⊢
  simp only [nl_p, fa_p, Nat.zero_add]
  rw [l1_a h3 rfl, bytes_len T.t54 rfl h4]
  exact c
theorem sc_6 {x : X} (T : Tx x) {r o : Nat} {κ : V → Prop} : pw.sc x 31 (.p r o) none none none κ = κ (.sl r o 6 6 false) := by
  show oP (slc x 31 (.p r o) none none none) κ = _
  have : slc x 31 (.p r o) none none none = some (.sl r o 6 6 false) := by
    simp only [slc, ti, T.t31, T.t5, goS, bound_n]
    rfl
  rw [this, oP_some]
theorem cp_6 {x : X} (T : Tx x) {h : H} {r : Nat} {l : List V} {v : V} {bs : List UInt8} {κ : V → H → Prop} (hg : h.mem.get r = some (.c l 31 true)) (hl : l.length = 6) (hb : BytesAt h v bs) (h6 : bs.length = 6) (K : ∀ w h', h'.mem.get r = some (.c (u8s bs) 31 true) → But h h' (some r) → κ w h') : pw.cp x 54 (.sl r 0 6 6 false) v h κ := by
  have hf := bytes_cells (j := ⟨.int .u8, 1, 1, false, (some [.i]), [.i .u8 0], (.i .u8 0)⟩) hb rfl
  rw [h6] at hf
  have e : copyH x h 54 (.sl r 0 6 6 false) v = some (.i .i64 6, ⟨h.next, h.mem.put r (some (.c (u8s bs) 31 true))⟩) := by
    simp only [copyH, ti_some _ T.t54, ti_some _ T.t5, hf.1, show lenV (V.sl r 0 6 6 false) = some 6 from rfl, show min 6 6 = 6 from rfl, hf.2, show Nat.beq 6 0 = false from rfl, cond_false, storeB, hg, u8s_one, Bool.and_self, cond_true]
    rw [overAt_mk (by rw [u8s_len]; omega), List.take_zero, List.nil_append, List.drop_of_length_le (by rw [u8s_len]; omega), List.append_nil]
    simp only [Go.Am.T.seq_eq]
    rfl
  show vhP (copyH x h 54 (.sl r 0 6 6 false) v) κ
  rw [e]
  exact K _ _ get_same ⟨Nat.le_refl _, fun q _ hq => by show (h.mem.put r _).get q = _; rw [get_other (fun e => hq (by rw [e]))], (gd_write hg).2⟩
theorem mac_ok {n : Nat} (hn : 2 ≤ n) {h : H} {N R : Nat} {bs : List UInt8} (r : Rd h N R bs) (h6 : 6 ≤ bs.length) (hl : bs.length ≤ 100000) {K : V → H → Prop}
    (c : ∀ h', Bd h' → Rd h' N R (bs.drop 6) → But h h' (some R) → K (.a (u8s (bs.take 6))) h') : Ok Tryz.prog n 160 [.p R 0] h K := by
  obtain ⟨n, rfl⟩ := Nat.exists_eq_add_of_le' hn
  refine Ok.bd (K160 fun hbd => ?_)
  have e6 : (bs.take 6).length = 6 := by simp; omega
  have hR := r.lt
  have hN := r.le
  unfold F160
  have T := txx
  generalize mkX Tryz.prog = x at T ⊢
  refine al_a T.t31 fun r2 h2 g2 f2 l2 l2' => ?_
  refine al_a T.t31 fun r3 h3 g3 f3 l3 l3' => ?_
  rw [sc_6 T]
  simp only [cf_k]
  have k2 := r.keep f2 (by simp)
  have k3 := k2.keep f3 (by simp)
  refine rb_ok (k := 6) (by omega) k3 h6 hl fun h4 v q hb4 r4 f4 hv hq hq1 hq2 => ?_
  have g34 := f4.get l3' (fun e => by have := f2.1; cases e; omega) g3
  refine cp_6 T g34 rfl (Vec.bytes hv) e6 fun w h5 g5 f5 => ?_
  rw [ln_w g5 (by rw [u8s_len, e6])]
  have g25 : h5.mem.get r2 = _ := f5.get (Nat.lt_of_lt_of_le (Nat.lt_of_lt_of_le l2' f3.1) f4.1) (fun e => by cases e; omega) (f4.get (Nat.lt_of_lt_of_le l2' f3.1) (fun e => by cases e; omega) (f3.get l2' (by simp) g2))
  refine sn_w g25 (cs := u8s (bs.take 6)) rfl (by rw [u8s_len, e6]) rfl (u8s_one _) fun h7 g7 f7 => ?_
  rw [ln_w g7 (by rw [u8s_len, e6])]
  refine fun hb7 => c h7 hb7 ((r4.keep f5 fun z hz => by cases hz; have := f2.1; omega).keep f7 fun z hz => by cases hz; omega) ?_
  have := f2.1
  have := f3.1
  have := f4.1
  have := f5.1
  refine ⟨Nat.le_trans f2.1 (Nat.le_trans f3.1 (Nat.le_trans f4.1 (Nat.le_trans f5.1 f7.1))), fun z hz hq => ?_, f7.2.2 ∘ f5.2.2 ∘ f4.2.2 ∘ f3.2.2 ∘ f2.2.2⟩
  rw [f7.2.1 z (by omega) (fun e => by cases e; omega), f5.2.1 z (by omega) (fun e => by cases e; omega), f4.2.1 z (by omega) hq, f3.2.1 z (by omega) (by simp), f2.2.1 z hz (by simp)]

/-- A reader is made. -/
theorem read_ok {n : Nat} (hn : 1 ≤ n) {h : H} {v : V} {bs : List UInt8} (hb : BytesAt h v bs) (hl : bs.length ≤ 100000) {K : V → H → Prop}
    (c : ∀ h' R, Bd h' → h.next ≤ R → Rd h' h'.next R bs → But h h' none → K (.p R 0) h') : Ok Tryz.prog n 159 [v] h K := by
  obtain ⟨n, rfl⟩ := Nat.exists_eq_add_of_le' hn
  refine Ok.bd (K159 fun hbd => ?_)
  unfold F159
  have T := txx
  generalize mkX Tryz.prog = x at T ⊢
  refine cpy T (.inl hb) (hb.lt hbd) (by omega) fun v' q h1 hv hq hq1 hq2 f1 => ?_
  have hby : BytesAt h1 v' bs := Vec.bytes hv
  obtain ⟨_, hs⟩ := hv
  rcases hs with ⟨rfl, _⟩ | ⟨r, cap, e, l, rfl, _⟩
  · cases hq
  refine bl_a (v := .a [.sl r 0 bs.length cap e, .b false]) (bl_st T.t444 rfl rfl rfl) ?_
  refine bx_a (cs := [.sl r 0 bs.length cap e, .b false]) rfl fun R h2 g2 f2 l2 l2' => ?_
  have hr : r < h1.next := by cases hq; exact hq2
  refine fun hb2 => c h2 R hb2 (Nat.le_trans f1.1 l2) ⟨l2', Nat.le_refl _, _, g2, hby.keep (fun z hz => by cases hz; exact hr) f2 (.inr rfl), fun z hz => by cases hz; exact ⟨Nat.lt_of_lt_of_le hr f2.1, by omega⟩⟩ (f1.trans f2)

def noFrame : List V := [.i .u8 0, .i .u8 0, .i .u8 0, .i .u8 0, .i .u8 0, .i .u8 0, .i .u8 0, .i .u8 0, .i .u8 0, .i .u8 0, .i .u8 0, .i .u8 0, .i .i64 0, .ns]
/-- A frame is read. -/
theorem get_ok {n : Nat} (hn : 5 ≤ n) {h : H} {v : V} {bs : List UInt8} (hb : BytesAt h v bs) (hl : bs.length ≤ 100000) {K : V → H → Prop}
    (c1 : ¬(14 ≤ bs.length ∧ bs.length ≤ 1514) → ∀ h' e, Bd h' → But h h' none → e ≠ 0 → K (.t [.a noFrame, .i .i64 e]) h')
    (c2 : 14 ≤ bs.length ∧ bs.length ≤ 1514 → ∀ h' bv, Bd h' → But h h' none → oneV bv = true → cellsOfV bv = [bv] → K (.t [.a (u8s (bs.take 6) ++ u8s ((bs.drop 6).take 6) ++ [.i .i64 ((((bs.drop 12).getD 0 0).toNat : Int) * 256 + (((bs.drop 12).getD 1 0).toNat : Int)), bv]), .i .i64 0]) h') : Ok Tryz.prog n 82 [v] h K := by
  obtain ⟨n, rfl⟩ := Nat.exists_eq_add_of_le' hn
  refine Ok.bd (K82 fun hbd => ?_)
  unfold F82
  have T := txx
  generalize mkX Tryz.prog = x at T ⊢
  refine al_a T.t203 fun r2 h2 g2 f2 l2 l2' => ?_
  rw [bytes_len T.t54 rfl hb]
  by_cases hs : 1514 < bs.length
  · simp (disch := omega) only [ws, dec_t, cd_t]
    refine bl_a (v := .a noFrame) (bl_st T.t203 rfl rfl rfl) ?_
    refine sn_w g2 (cs := noFrame) rfl rfl rfl rfl fun h3 g3 f3 => ?_
    rw [ln_w (sz := 14) g3 rfl]
    exact fun hb3 => c1 (by omega) h3 2 hb3 (bn1 f2 f3 fun z hz => by cases hz; exact l2) (by decide)
  simp (disch := omega) only [ws, dec_f, cd_f]
  rw [bytes_len T.t54 rfl hb]
  by_cases hs2 : bs.length < 14
  · simp (disch := omega) only [ws, dec_t, cd_t]
    refine bl_a (v := .a noFrame) (bl_st T.t203 rfl rfl rfl) ?_
    refine sn_w g2 (cs := noFrame) rfl rfl rfl rfl fun h3 g3 f3 => ?_
    rw [ln_w (sz := 14) g3 rfl]
    exact fun hb3 => c1 (by omega) h3 3 hb3 (bn1 f2 f3 fun z hz => by cases hz; exact l2) (by decide)
  simp (disch := omega) only [ws, dec_f, cd_f]
  unfold F82_4
  simp only [cf_k]
  have hb2 := hb.keep (hb.lt hbd) f2 (.inr rfl)
  refine read_ok (by omega) hb2 hl fun h3 R hb3 lR rd f3 => ?_
  have hN : h2.next ≤ R := lR
  have fRz : ∀ z, some R = some z → h.next ≤ z := fun z hz => by cases hz; exact Nat.le_trans f2.1 lR
  refine mac_ok (by omega) rd (by omega) hl fun h4 hb4 r4 f4 => ?_
  refine mac_ok (by omega) r4 (by simp; omega) (by simp; omega) fun h5 hb5 r5 f5 => ?_
  refine u16_ok (by omega) r5 (by simp; omega) (by simp; omega) fun h6 hb6 r6 f6 => ?_
  have f26 : But h h6 none := bn1 (bn1 (bn1 (f2.trans f3) f4 fRz) f5 fRz) f6 fRz
  have e1 : (bs.take 6).length = 6 := by simp; omega
  have e2 : ((bs.drop 6).take 6).length = 6 := by simp; omega
  have d12 : (bs.drop 6).drop 6 = bs.drop 12 := by rw [List.drop_drop]
  rw [d12] at r6 ⊢
  generalize hty : ((((bs.drop 12).getD 0 0).toNat : Int) * 256 + (((bs.drop 12).getD 1 0).toNat : Int)) = ty at c2 ⊢
  generalize ht : bs.take 6 = ts at e1 c2 ⊢
  generalize hf : (bs.drop 6).take 6 = fs at e2 c2 ⊢
  obtain ⟨t0, t1, t2, t3, t4, t5, rfl⟩ := list6 e1
  obtain ⟨s0, s1, s2, s3, s4, s5, rfl⟩ := list6 e2
  have c2' := c2 (by omega)
  refine bl_a (v := .a (u8s [t0, t1, t2, t3, t4, t5] ++ u8s [s0, s1, s2, s3, s4, s5] ++ [.i .i64 ty, .ns])) (bl_st T.t203 rfl rfl rfl) ?_
  refine al_a T.t203 fun r7 h7 g7 f7 l7 l7' => ?_
  refine sn_w g7 (cs := u8s [t0, t1, t2, t3, t4, t5] ++ u8s [s0, s1, s2, s3, s4, s5] ++ [.i .i64 ty, .ns]) rfl rfl rfl rfl fun h8 g8 f8 => ?_
  have hN6 := r6.le
  have r8 := (r6.keep f7 (by simp)).keep f8 fun z hz => by cases hz; omega
  refine left_ok (by omega) r8 ?_
  refine rb_ok (by omega) r8 (Nat.le_refl _) (by simp; omega) fun h9 bv q hb9 r9 f9 hv9 hq9 hq9' hq9'' => ?_
  have hbv : BytesAt h9 bv _ := Vec.bytes hv9
  have hc := bytes_cellsOf hbv
  have hR7 : R ≠ r7 := by have := r6.lt; omega
  have g9 := f9.get (Nat.lt_of_lt_of_le l7' f8.1) (fun e => hR7 (by cases e; rfl)) g8
  simp only [fa_p, Nat.zero_add]
  refine s1_a g9 (by simp [u8s]) hc.2 fun h10 g10 f10 => ?_
  have e10 : ((u8s [t0, t1, t2, t3, t4, t5] ++ u8s [s0, s1, s2, s3, s4, s5] ++ [V.i .i64 ty, .ns]).set 13 bv) = u8s [t0, t1, t2, t3, t4, t5] ++ u8s [s0, s1, s2, s3, s4, s5] ++ [.i .i64 ty, bv] := rfl
  rw [e10] at g10
  rw [ln_w (sz := 14) g10 rfl]
  have f10' : But h h10 none := bn1 (bn1 (bn1 (f26.trans f7) f8 fun z hz => by cases hz; exact Nat.le_trans f26.1 l7) f9 fRz) f10 fun z hz => by cases hz; exact Nat.le_trans f26.1 l7
  have h27 : r2 < h6.next := Nat.lt_of_lt_of_le l2' (Nat.le_trans f3.1 (Nat.le_trans f4.1 (Nat.le_trans f5.1 f6.1)))
  have hn2 : ∀ {a b : H} {c : Option Nat}, But a b c → a.next ≤ b.next := fun f => f.1
  have g2' : h10.mem.get r2 = some (.c noFrame 203 true) := by
    have a3 := f3.get l2' (by simp) g2
    have ne : some r2 ≠ some R := fun e => by cases e; omega
    have a4 := f4.get (Nat.lt_of_lt_of_le l2' f3.1) ne a3
    have a5 := f5.get (Nat.lt_of_lt_of_le l2' (Nat.le_trans f3.1 f4.1)) ne a4
    have a6 := f6.get (Nat.lt_of_lt_of_le l2' (Nat.le_trans f3.1 (Nat.le_trans f4.1 f5.1))) ne a5
    have a7 := f7.get h27 (by simp) a6
    have ne7 : some r2 ≠ some r7 := fun e => by cases e; omega
    have a8 := f8.get (Nat.lt_of_lt_of_le h27 f7.1) ne7 a7
    have a9 := f9.get (Nat.lt_of_lt_of_le h27 (Nat.le_trans f7.1 f8.1)) ne a8
    exact f10.get (Nat.lt_of_lt_of_le h27 (Nat.le_trans f7.1 (Nat.le_trans f8.1 f9.1))) ne7 a9
  have e11 : (u8s [t0, t1, t2, t3, t4, t5] ++ u8s [s0, s1, s2, s3, s4, s5] ++ [V.i .i64 ty, bv]).all oneV = true := by
    simp only [List.all_append, u8s_one, List.all_cons, hc.2]; rfl
  refine sn_w g2' (cs := u8s [t0, t1, t2, t3, t4, t5] ++ u8s [s0, s1, s2, s3, s4, s5] ++ [.i .i64 ty, bv]) rfl rfl rfl e11 fun h11 g11 f11 => ?_
  rw [ln_w (sz := 14) g11 rfl]
  exact fun hb11 => c2' h11 bv hb11 (bn1 f10' f11 fun z hz => by cases hz; exact l2) hc.2 hc.1
end Go.Proofs.YtcebbmappnbegaaGreatDoor.Wb
