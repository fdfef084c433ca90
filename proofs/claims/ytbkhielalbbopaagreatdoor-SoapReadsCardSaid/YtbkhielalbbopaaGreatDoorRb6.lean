/- The parser's trees: the loop over a tree's text and kids, the tree. -/
import Derived.Test.YtbkhielalbbopaaGreatDoorRc5
set_option linter.unusedSimpArgs false
set_option linter.unusedVariables false
set_option linter.unusedSectionVars false
set_option linter.unnecessarySimpa false
set_option maxRecDepth 100000
namespace Go.Proofs.YtbkhielalbbopaaGreatDoor.Wb
open Go Go.Am Go.Am.Xm
theorem badT_ok {r : Nat} {h : H} {s : Bs} {d : Int} {hd : Bs} (P : Prs h r s (false || badT hd) d) : Prs h r s (badT hd) d := by rw [Bool.false_or] at P; exact P
theorem trl_ok {n : Nat} (hn : 12 ≤ n) {hS : H} {r tv rv : Nat} {nm : Bs} {dp : Int} {rc : PS → Int → Option (XT × PS × Int)} {K : V → H → Prop} (hr16 : 16 ≤ r) (L : Low hS) {oT : Bs} {oK : List XT} {q : PS} {dq : Int}
  (hdp : -9223372036854775808 ≤ dp + 1 ∧ dp + 1 ≤ 9223372036854775807)
  (hrl : ∀ {p d t q e}, rc p d = some (t, q, e) → q.1.length ≤ p.1.length)
  (hrc : ∀ (p : PS) (d : Int) (t : XT) (p' : PS) (d' : Int) (h : H) (K : V → H → Prop), rc p d = some (t, p', d') → Prs h r p.1 p.2 d → Low h → r < h.next → p.1.length < 50000 →
   (∀ h' e, Prs h' r p'.1 p'.2 d' → But h h' (some r) → TrA h' (fun q => h.next ≤ q) t e → K (.a (encT e)) h') → Ok Tryz.prog n 41 [.p r 0, .i .i64 (dp + 1)] h K)
  (k : ∀ h' e, Prs h' r q.1 q.2 dq → But hS h' (some r) → TrA h' (fun q => hS.next ≤ q) (.node (plainS nm) oT oK) e → K (.a (encT e)) h') :
  ∀ (m : Nat) (tx : Bs) (ks : List XT) (p : PS) (d : Int) (h : H), treeL rc nm m tx ks p d = some ((oT, oK), q, dq) → Trl hS h r tv rv (plainS nm) tx ks → Prs h r p.1 p.2 d → p.1.length < 50000 → tx.length + 4 * p.1.length ≤ 400000 → ks.length + m ≤ 100000 →
   F41_32 pw (mkX Tryz.prog) (Ok Tryz.prog n) (fun v h => Bd h → K v h) m (.p r 0) (.i .i64 dp) (.p rv 0) (.s nm) (.b false) (.p tv 0) h := by
 intro m
 induction m with
 | zero => intro tx ks p d h e; cases e
 | succ m ih =>
  intro tx ks p d h e T P hl ht hk
  have hr := T.f
  have rh : r < h.next := Nat.lt_of_lt_of_le T.rS T.f.1
  have P0 := P
  obtain ⟨ty, hg⟩ := P0
  have low : ∀ {h' : H}, But hS h' (some r) → Low h' := fun f => L.keep f (fun q e => by cases e; exact hr16)
  rw [S41_32]
  simp only [nt_b, Bool.not_false, g1_t, nl_p, fa_p, Nat.zero_add]
  rw [l1_a hg rfl, nt_b]
  simp only [pk_t]
  rw [treeL] at e
  cases hb : p.2 with
  | true =>
   rw [if_pos hb] at e
   cases e
   rw [Bool.not_true, cd_f]
   unfold F41_26
   exact T.fin P k
  | false =>
   rw [if_neg (by rw [hb]; decide)] at e
   rw [Bool.not_false, cd_t]
   unfold F41_39
   simp only [nl_p, fa_p, Nat.zero_add]
   rw [l1_a hg rfl]
   simp only [cf_k, c41]
   refine cut_ok (by omega) (by omega) (fun a b ec => ?_) (fun ec => ?_)
   ·-- a text, then <
    rw [ec] at e
    simp only at e
    have hcl := cut1_len ec
    have hol := outT_len a
    simp only [ex_t, List.getElem?_cons_zero, List.getElem?_cons_succ, oP_some, nt_b, Bool.not_true, cd_f]
    unfold F41_58
    simp only [fa_p, Nat.zero_add]
    obtain ⟨kv, es, c1, c2, c3, c4⟩ := T.k
    rw [l1_a c1 rfl]
    simp only [cf_k]
    refine text_ok (by omega) P rh (low T.f) (by omega) fun h1 P1 f1 => ?_
    rw [hb] at P1
    have P1 := badT_ok P1
    have T1 := T.keep f1
    obtain ⟨kv1, es1, d1, d2, d3, d4⟩ := T1.k
    have g1 := f1.get T.tv1 (fun e => by cases e; have := T.tv0; have := T.rS; omega) c1
    rw [ad_s (by omega)]
    refine T1.text (tx ++ outT a) fun h2 f2 T2 => ?_
    have P2 := P1.keep f2 (Nat.lt_of_lt_of_le rh f1.1) (fun e => by cases e; have := T.tv0; have := T.rS; omega)
    refine ck_1 p58 (againW_l tt9 rfl rfl T.tv1 c1 rfl) (fun pr hpr => ?_) ?_
    ·simp only [List.mem_singleton] at hpr
     subst hpr
     exact againW_l tt9 rfl rfl T1.tv1 g1 rfl
    obtain ⟨ty2, hg2⟩ := P2
    simp only [nl_p, fa_p, Nat.zero_add]
    rw [l1_a hg2 rfl, lg_s tt9 rfl, sc_d (by omega)]
    refine s1_a hg2 (by simp) rfl fun h3 hg3 f3 => ?_
    have T3 := T2.keep f3
    have P3 : Prs h3 r (p.1.drop a.length) (badT a) d := ⟨ty2, hg3⟩
    have r3 : r < h3.next := Nat.lt_of_lt_of_le T3.rS T3.f.1
    have dl : (p.1.drop a.length).length = p.1.length - a.length := List.length_drop ..
    have hx : (tx ++ outT a).length ≤ tx.length + 4 * a.length := by rw [List.length_append]; omega
    cases hrm : remP (p.1.drop a.length, badT a) with
    | none => rw [hrm] at e; cases e
    | some v =>
     obtain ⟨bb, p3⟩ := v
     have lrm := remP_le hrm
     simp only at lrm
     rw [hrm] at e
     refine rem_ok (by omega) (low T3.f) hr16 P3 (by simp only; omega) hrm fun h4 P4 f4 => ?_
     have T4 := T3.keep f4
     have r4 : r < h4.next := Nat.lt_of_lt_of_le T4.rS T4.f.1
     cases bb with
     | true =>
      simp only at e
      rw [cd_t]
      exact ih _ _ _ _ h4 e T4 P4 (by omega) (by omega) (by omega)
     | false =>
      simp only at e
      rw [cd_f]
      refine take_ok (by omega) P4 fun h5 P5 f5 => ?_
      have T5 := T4.keep f5
      have r5 : r < h5.next := Nat.lt_of_lt_of_le T5.rS T5.f.1
      have e5 : (hasP [60, 47] p3.1 && !p3.2) = tkB [60, 47] p3 := rfl
      rw [e5]
      have P5 : Prs h5 r (tkP [60, 47] p3).1 (tkP [60, 47] p3).2 d := P5
      have l5 := tkP_le [60, 47] p3
      cases hb5 : tkB [60, 47] p3 with
      | true =>
       rw [if_pos hb5] at e
       cases e
       rw [cd_t]
       have l6 := wtP_le nm (tkP [60, 47] p3)
       refine want_ok (by omega) P5 fun h6 P6 f6 => ?_
       have T6 := T5.keep f6
       have P6 : Prs h6 r (wtP nm (tkP [60, 47] p3)).1 (wtP nm (tkP [60, 47] p3)).2 dq := P6
       refine blanks_ok (by omega) P6 (Nat.lt_of_lt_of_le T6.rS T6.f.1) (by omega) fun h7 P7 f7 => ?_
       have T7 := T6.keep f7
       have P7 : Prs h7 r (blP (wtP nm (tkP [60, 47] p3))).1 (blP (wtP nm (tkP [60, 47] p3))).2 dq := P7
       refine want_ok (by omega) P7 fun h8 P8 f8 => ?_
       have T8 := T7.keep f8
       exact T8.fin (p := wtP [62] (blP (wtP nm (tkP [60, 47] p3)))) P8 k
      | false =>
       rw [if_neg (by rw [hb5]; decide)] at e
       rw [cd_f]
       have htk : tkP [60, 47] p3 = p3 := by
        unfold tkP
        rw [if_neg]
        rintro ⟨x1, x2⟩
        simp only [tkB, x1, x2] at hb5
        cases hb5
       rw [htk] at P5
       refine want_ok (by omega) P5 fun h6 P6 f6 => ?_
       have T6 := T5.keep f6
       have r6 : r < h6.next := Nat.lt_of_lt_of_le T6.rS T6.f.1
       have P6 : Prs h6 r (wtP [60] p3).1 (wtP [60] p3).2 d := P6
       have l6 := wtP_le [60] p3
       obtain ⟨kv6, es6, c61, c62, c63, c64⟩ := T6.k
       rw [l1_a c61 rfl, ad_64 hdp]
       cases hrec : rc (wtP [60] p3) d with
       | none => rw [hrec] at e; cases e
       | some v =>
        obtain ⟨t, p5, d5⟩ := v
        rw [hrec] at e
        simp only at e
        have l7 := hrl hrec
        refine hrc _ _ _ _ _ h6 _ hrec P6 (low T6.f) r6 (by omega) fun h7 e7 P7 f7 t7 => ?_
        have T7 := T6.keep f7
        have ntv : some tv ≠ some r := fun e => by cases e; have := T.tv0; have := T.rS; omega
        have c71 := f7.get T6.tv1 ntv c61
        have c72 : VecE h7 kv6 63 3 encT es6 := c62.keep (fun q hq => (c63 q hq).2.1) f7 (.inl fun e => by have := (c63 r e).1; have := T.rS; omega)
        have c74 : TrsA h7 (fun q => hS.next ≤ q ∧ q ≠ tv ∧ q ≠ rv ∧ vblk kv6 ≠ some q) ks es6 := c64.keep ⟨f7.1, fun q hq hN => f7.2.1 q hq fun e => by cases e; have := hN.1; have := T.rS; omega⟩ fun q _ h => h
        have t72 : TrA h7 (fun q => hS.next ≤ q ∧ q ≠ tv ∧ q ≠ rv ∧ vblk kv6 ≠ some q) t e7 := t7.keep ⟨Nat.le_refl _, fun q _ _ => rfl⟩ fun q _ h0 => by
         have a1 := T6.f.1
         have a2 := T6.tv1
         have a3 := T6.rv1
         refine ⟨by omega, by omega, by omega, fun e => ?_⟩
         have := (c63 q e).2.1
         omega
        have hkl : es6.length = ks.length := c64.len
        have one7 : (encT e7).all oneV = true := by
         cases t with
         | node nn tt kk =>
          obtain ⟨_, _, es', v7, _⟩ := t7
          have : oneV e7.2.2 = true := by
           obtain ⟨_, ⟨h1, _⟩ | ⟨_, _, _, _, h1, _⟩⟩ := v7 <;> rw [h1] <;> rfl
          show (true && (true && (oneV e7.2.2 && true))) = true
          rw [this]; rfl
        refine bs_a (cs := encT e7) (l := [(0 * 3, .a (encT e7))]) tt61 rfl tt63 (by decide) rfl rfl fun q8 h8 hg8 f8 hq8 hq8' => ?_
        have f8' : But h7 h8 (some r) := f8.none _
        have c82 : VecE h8 kv6 63 3 encT es6 := c72.keep (fun q hq => Nat.lt_of_lt_of_le (c63 q hq).2.1 f7.1) f8 (.inr rfl)
        refine ap_vec (cs := encT e7) (m := 1) tt61 rfl tt63 tt61 (by intro k e; cases e) rfl ?_ c82 rfl one7 (by unfold most; simp only; omega) (by unfold most; omega) fun v9 h9 hv9 f9 hq9 => ?_
        ·simp only [fcells, hg8]
         rfl
        have hv9 : VecE h9 v9 63 3 encT (es6 ++ [e7]) := by
         unfold VecE
         rw [encs_app, encs_one, List.length_append]
         exact hv9
        have k6tv : vblk kv6 ≠ some tv := fun e => (c63 tv e).2.2.1 rfl
        have k6rv : vblk kv6 ≠ some rv := fun e => (c63 rv e).2.2.2 rfl
        have tv7 := T7.tv1
        have rv7 := T7.rv1
        have n78 := f8.1
        have n89 := f9.1
        have g9 := f9.get (Nat.lt_of_lt_of_le tv7 n78) (fun e => k6tv e.symm) (f8.get tv7 (by simp) c71)
        have one9 : oneV v9 = true := by
         obtain ⟨_, ⟨h1, _⟩ | ⟨_, _, _, _, h1, _⟩⟩ := hv9 <;> rw [h1] <;> rfl
        refine s1_a (o := 2) g9 (by simp) one9 fun h10 hg10 f10 => ?_
        have n910 := f10.1
        have g8 := f8.get tv7 (by simp) c71
        refine ck_1 p32 (againW_l tt61 rfl rfl T6.tv1 c61 rfl) (fun pr hpr => ?_) ?_
        ·simp only [List.mem_cons, List.not_mem_nil, or_false] at hpr
         rcases hpr with rfl | rfl
         ·exact againW_l tt61 rfl rfl (by simp only; omega) g9 rfl
         ·exact againW_l tt61 rfl rfl tv7 c71 rfl
        have v9q : ∀ q, vblk v9 = some q → hS.next ≤ q ∧ q < h9.next ∧ q ≠ tv ∧ q ≠ rv := by
         intro q hq
         rcases hq9 with e9 | ⟨e9, e9'⟩
         ·rw [e9] at hq
          have hc := c63 q hq
          have := f7.1
          exact ⟨hc.1, by omega, hc.2.2⟩
         ·rw [e9] at hq
          cases hq
          have := T7.f.1
          exact ⟨by omega, e9', by omega, by omega⟩
        obtain ⟨csr, cr1, cr2⟩ := T7.rb
        have cr3 := f10.get (by omega) (fun e => T.ne (Option.some.inj e).symm) (f9.get (Nat.lt_of_lt_of_le rv7 n78) (fun e => k6rv e.symm) (f8.get rv7 (by simp) cr1))
        have fk6 : ∀ z, vblk kv6 = some z → hS.next ≤ z := fun z hz => (c63 z hz).1
        have f19 : But hS h9 (some r) := (T7.f.trans f8').over f9 (.inr fk6)
        have f1A : But hS h10 (some r) := f19.over f10 (.inr fun z e => by cases e; exact T.tv0)
        have TA : Trl hS h10 r tv rv (plainS nm) (tx ++ outT a) (ks ++ [t]) := by
         refine ⟨f1A, T.rS, T.tv0, T.rv0, by omega, by omega, T.ne, ⟨csr, cr3, cr2⟩, v9, es6 ++ [e7], hg10, hv9.keep (fun q hq => (v9q q hq).2.1) f10 (.inl fun e => (v9q tv e).2.2.1 rfl), fun q hq => ?_, (c74.app t72).keep ⟨by omega, fun q hq hN => ?_⟩ fun q hq hN => ⟨hN.1, hN.2.1, hN.2.2.1, fun e => ?_⟩⟩
         ·have := v9q q hq
          exact ⟨this.1, by omega, this.2.2⟩
         ·rw [f10.2.1 q (by omega) (fun e => hN.2.1 (Option.some.inj e)), f9.2.1 q (by omega) (fun e => hN.2.2.2 e.symm), f8.2.1 q hq (by simp)]
         ·rcases hq9 with e9 | ⟨e9, e9'⟩
          ·rw [e9] at e
           exact hN.2.2.2 e
          ·rw [e9] at e
           cases e
           omega
        have PA : Prs h10 r p5.1 p5.2 d5 := by
         have r7 : r < h7.next := Nat.lt_of_lt_of_le T7.rS T7.f.1
         have P8 := P7.keep f8 r7 (by simp)
         have P9 := P8.keep f9 (by omega) (fun e => by have := (c63 r e).1; have := T.rS; omega)
         exact P9.keep f10 (by omega) (fun e => by cases e; have := T.tv0; have := T.rS; omega)
        exact ih _ _ _ _ h10 e TA PA (by omega) (by omega) (by rw [List.length_append, List.length_singleton]; omega)
   ·-- no < any more
    rw [ec] at e
    cases e
    simp only [ex_t, List.getElem?_cons_zero, List.getElem?_cons_succ, oP_some, nt_b, Bool.not_false, cd_t, nl_p, fa_p, Nat.zero_add]
    refine s1_a hg (by simp) rfl fun h1 hg1 f1 => ?_
    unfold F41_26
    exact (T.keep f1).fin (p := (p.1, true)) ⟨ty, hg1⟩ k
theorem tree_ok : ∀ (k : Nat) {n : Nat}, 13 + k ≤ n → ∀ (dp : Int), 0 ≤ dp → dp + k ≤ 1000000 → ∀ (r : Nat) (p : PS) (d : Int) (t : XT) (p' : PS) (d' : Int) (h : H) (K : V → H → Prop), 16 ≤ r → treeP k dp p d = some (t, p', d') → Prs h r p.1 p.2 d → Low h → r < h.next → p.1.length < 50000 →
  (∀ h' e, Prs h' r p'.1 p'.2 d' → But h h' (some r) → TrA h' (fun q => h.next ≤ q) t e → K (.a (encT e)) h') → Ok Tryz.prog n 41 [.p r 0, .i .i64 dp] h K
 | 0, n, _, _, _, _, _, _, _, _, _, _, _, _, _, e, _, _, _, _, _ => by cases e
 | k + 1, n, hn, dp, hd0, hd1, r, p, d, t, p', d', h, K, hr16, e, P, L, hr, hl, hk => by
  obtain ⟨n, rfl⟩ := Nat.exists_eq_add_of_le' (show 1 ≤ n by omega)
  refine Ok.bd (K41 fun hbd => ?_)
  unfold F41
  refine al_a tt63 fun rv h1 g1 f1 v1 v2 => ?_
  have P1 := P.keep f1 hr (by simp)
  obtain ⟨ty, hg1⟩ := P1
  simp only [nl_p, fa_p, Nat.zero_add]
  rw [l1_a hg1 rfl, mm_i]
  refine s1_a hg1 (by simp) rfl fun h2 hg2 f2 => ?_
  have P2 : Prs h2 r p.1 p.2 (max d dp) := ⟨ty, hg2⟩
  have f12 : But h h2 (some r) := (f1.none _).trans f2
  have low : ∀ {h' : H}, But h h' (some r) → Low h' := fun f => L.keep f (fun q e => by cases e; exact hr16)
  have r2 : r < h2.next := Nat.lt_of_lt_of_le hr f12.1
  rw [cf_k]
  have lo := openP_le p
  refine open_ok (by omega) P2 r2 hr16 (low f12) hl fun h3 P3 f3 => ?_
  simp only [ex_t, List.getElem?_cons_zero, List.getElem?_cons_succ, oP_some, cf_k]
  have hnm : (nameS p.1).length ≤ p.1.length := by unfold nameS; rw [List.length_take]; omega
  refine plain_ok (by omega) (by omega) ?_
  refine bl_a (v := .a [.s (plainS (nameS p.1)), .s [], .ns]) ?_ ?_
  ·unfold blW
   rw [ti_some _ tt63]
   rfl
  refine al_a tt63 fun tv h4 g4 f4 t1 t2 => ?_
  refine sn_w g4 (cs := [.s (plainS (nameS p.1)), .s [], .ns]) rfl rfl rfl rfl fun h5 g5 f5 => ?_
  have f23 : But h2 h3 (some r) := f3
  have f13 := f12.trans f3
  have f14 := f13.trans (f4.none _)
  have f15 : But h h5 (some r) := f14.over f5 (.inr fun z e => by cases e; exact Nat.le_trans f13.1 t1)
  have rvr : some rv ≠ some r := fun e => by cases e; omega
  have gv2 := f2.get v2 rvr g1
  have gv3 := f3.get (Nat.lt_of_lt_of_le v2 f2.1) rvr gv2
  have rv3 : rv < h3.next := Nat.lt_of_lt_of_le v2 (Nat.le_trans f2.1 f3.1)
  have gv4 := f4.get rv3 (by simp) gv3
  have rvt : rv ≠ tv := by omega
  have gv5 := f5.get (Nat.lt_of_lt_of_le rv3 f4.1) (fun e => rvt (Option.some.inj e)) gv4
  have T : Trl h h5 r tv rv (plainS (nameS p.1)) [] [] := ⟨f15, hr, Nat.le_trans f13.1 t1, v1, Nat.lt_of_lt_of_le t2 f5.1, Nat.lt_of_lt_of_le rv3 (Nat.le_trans f4.1 f5.1), fun e => rvt e.symm, ⟨_, gv5, rfl⟩, .ns, [], g5, ⟨rfl, .inl ⟨rfl, rfl⟩⟩, (fun q hq => by cases hq), rfl⟩
  have P5 : Prs h5 r (openP p).2.1 (openP p).2.2 (max d dp) := (P3.keep f4 (Nat.lt_of_lt_of_le r2 f3.1) (by simp)).keep f5 (Nat.lt_of_lt_of_le r2 (Nat.le_trans f3.1 f4.1)) (fun e => by
   cases e
   have := Nat.lt_of_lt_of_le r2 f3.1
   omega)
  rw [treeP] at e
  cases ha : (openP p).1 with
  | true =>
   rw [if_pos ha] at e
   cases e
   rw [show (100000 : Nat) = 99999 + 1 from rfl, S41_32]
   simp only [nt_b, Bool.not_true, g1_f, pk_f, cd_f]
   unfold F41_26
   exact T.fin P5 hk
  | false =>
   rw [if_neg (by rw [ha]; decide)] at e
   cases hT : treeL (fun q e => treeP k (dp + 1) q e) (nameS p.1) 100000 [] [] (openP p).2 (max d dp) with
   | none => rw [hT] at e; cases e
   | some v =>
    obtain ⟨⟨tx, ks⟩, p2, d2⟩ := v
    rw [hT] at e
    cases e
    refine trl_ok (by omega) hr16 L (by omega) (fun h => treeP_le k h) (fun p d t p' d' h K e P L hr hl hk => tree_ok k (by omega) (dp + 1) (by omega) (by omega) r p d t p' d' h K hr16 e P L hr hl hk) hk 100000 [] [] _ _ h5 hT T P5 (by omega) (by simp; omega) (by simp)
def ahL : Nat → Bool → PS → Option PS
 | 0, _, _ => none
 | m + 1, o, p => if p.2 = true then some p else if (blP p).1.length < p.1.length then ahL m o (blP p) else match remP (blP p) with
  | none => none
  | some (true, p2) => ahL m o p2
  | some (false, p2) => if o = false ∧ tkB [60, 63] p2 = true then match cut2 63 62 (p2.1.drop 2) with
    | some b => ahL m true (b.2, false)
    | none => ahL m true (p2.1.drop 2, true)
   else some p2
def trL : Nat → PS → Option PS
 | 0, _ => none
 | m + 1, p => if p.2 = true then some p else if (blP p).1.length < p.1.length then trL m (blP p) else match remP (blP p) with
  | none => none
  | some (true, p2) => trL m p2
  | some (false, p2) => some p2
def XT0 : XT := .node [] [] []
def endP (t : XT) (p : PS) (d : Int) : XT × Int := if p.2 = true ∨ p.1 ≠ [] then (XT0, 9) else if 8 < d then (XT0, 2) else (t, 0)
def parseP (k : Nat) (s : Bs) : Option (XT × Int) := match ahL 100000 false (s, !clnB s) with
 | none => none
 | some p1 => if (wtP [60] p1).2 = true then some (endP XT0 (wtP [60] p1) 0) else match treeP k 1 (wtP [60] p1) 0 with
  | none => none
  | some (t, p3, d) => match trL 100000 p3 with
   | none => none
   | some p4 => some (endP t p4 d)
theorem ahL_le : ∀ (m : Nat) {o : Bool} {p q : PS}, ahL m o p = some q → q.1.length ≤ p.1.length
 | 0, _, _, _, h => by cases h
 | m + 1, o, p, q, h => by
  rw [ahL] at h
  have l1 := blP_le p
  split at h
  ·cases h; exact Nat.le_refl _
  split at h
  ·have := ahL_le m h; omega
  split at h
  ·cases h
  ·rename_i p2 e
   have := remP_le e
   have := ahL_le m h
   omega
  ·rename_i p2 e
   have := remP_le e
   split at h
   ·split at h
    ·rename_i b e2
     have := ahL_le m h
     have h2 := cut2_len (a := b.1) (b := b.2) e2
     rw [List.length_drop] at h2
     simp only at this
     omega
    ·have := ahL_le m h
     simp only [List.length_drop] at this
     omega
   ·cases h; omega
theorem trL_le : ∀ (m : Nat) {p q : PS}, trL m p = some q → q.1.length ≤ p.1.length
 | 0, _, _, h => by cases h
 | m + 1, p, q, h => by
  rw [trL] at h
  have l1 := blP_le p
  split at h
  ·cases h; exact Nat.le_refl _
  split at h
  ·have := trL_le m h; omega
  split at h
  ·cases h
  ·rename_i p2 e
   have := remP_le e
   have := trL_le m h
   omega
  ·rename_i p2 e
   have := remP_le e
   cases h; omega
theorem ahead_ok {n : Nat} (hn : 8 ≤ n) {r : Nat} {d : Int} {hS : H} {K : V → H → Prop} (hr16 : 16 ≤ r) (L : Low hS) {q : PS}
  (k : ∀ h', Prs h' r q.1 q.2 d → But hS h' (some r) → K (.t []) h') :
  ∀ (m : Nat) (o : Bool) (p : PS) (h : H), ahL m o p = some q → Prs h r p.1 p.2 d → r < h.next → But hS h (some r) → p.1.length < 50000 → F39_3 pw (mkX Tryz.prog) (Ok Tryz.prog n) (fun v h => Bd h → K v h) m (.p r 0) (.b o) h := by
 intro m
 induction m with
 | zero => intro o p h e; cases e
 | succ m ih =>
  intro o p h e P hr f hl
  have low : ∀ {h' : H}, But hS h' (some r) → Low h' := fun f => L.keep f (fun q e => by cases e; exact hr16)
  have P0 := P
  obtain ⟨ty, hg⟩ := P0
  show pw.nl _ _
  simp only [nl_p, fa_p, Nat.zero_add]
  rw [l1_a hg rfl, nt_b]
  rw [ahL] at e
  cases hb : p.2 with
  | true =>
   rw [if_pos hb] at e
   cases e
   rw [Bool.not_true, cd_f]
   exact fun _ => k h P f
  | false =>
   rw [if_neg (by rw [hb]; decide)] at e
   rw [Bool.not_false, cd_t]
   unfold F39_6
   rw [cf_k]
   have lb := blP_le p
   refine blanks_ok (by omega) P hr hl fun h1 P1 f1 => ?_
   have P1 : Prs h1 r (blP p).1 (blP p).2 d := P1
   have r1 : r < h1.next := Nat.lt_of_lt_of_le hr f1.1
   have eb : decide ((trimS blk p.1).length < p.1.length) = decide ((blP p).1.length < p.1.length) := rfl
   rw [eb]
   by_cases hs : (blP p).1.length < p.1.length
   ·rw [if_pos hs] at e
    rw [decide_eq_true hs]
    simp only [g0_t, pk_t, cd_t]
    exact ih o _ h1 e P1 r1 (f.trans f1) (by omega)
   ·rw [if_neg hs] at e
    rw [decide_eq_false hs]
    simp only [g0_f, cf_k]
    cases hrm : remP (blP p) with
    | none => rw [hrm] at e; cases e
    | some v =>
     obtain ⟨bb, p2⟩ := v
     have lrm := remP_le hrm
     rw [hrm] at e
     refine rem_ok (by omega) (low (f.trans f1)) hr16 P1 (by omega) hrm fun h2 P2 f2 => ?_
     have g2 := (f.trans f1).trans f2
     have r2 : r < h2.next := Nat.lt_of_lt_of_le r1 f2.1
     cases bb with
     | true =>
      simp only at e
      simp only [pk_f, cd_t]
      exact ih o _ h2 e P2 r2 g2 (by omega)
     | false =>
      simp only at e
      simp only [pk_f, cd_f]
      cases o with
      | true =>
       rw [if_neg (by simp)] at e
       cases e
       simp only [nt_b, Bool.not_true, g1_f, pk_f, cd_f]
       exact fun _ => k h2 P2 g2
      | false =>
       simp only [nt_b, Bool.not_false, g1_t, c39]
       refine take_ok (by omega) P2 fun h3 P3 f3 => ?_
       have g3 := g2.trans f3
       have r3 : r < h3.next := Nat.lt_of_lt_of_le r2 f3.1
       have et : (hasP [60, 63] p2.1 && !p2.2) = tkB [60, 63] p2 := rfl
       rw [et]
       simp only [pk_t]
       cases ht : tkB [60, 63] p2 with
       | false =>
        rw [if_neg (by rw [ht]; simp)] at e
        cases e
        rw [cd_f]
        rw [if_neg (by
         rintro ⟨x1, x2⟩
         simp only [tkB, x1, x2] at ht
         cases ht)] at P3
        exact fun _ => k h3 P3 g3
       | true =>
        rw [if_pos ⟨rfl, ht⟩] at e
        rw [cd_t]
        have hx : hasP [60, 63] p2.1 = true ∧ p2.2 = false := by
         simpa [tkB] using ht
        rw [if_pos hx, hx.2] at P3
        rw [show ([60, 63] : Bs).length = 2 from rfl] at P3
        try simp only [cf_k]
        refine to2_ok (by omega) (low g3) P3 (by rw [List.length_drop]; omega) fun h4 b' c z hz P4 f4 => ?_
        cases hc : cut2 63 62 (p2.1.drop 2) with
        | none =>
         rw [hc] at e hz
         obtain ⟨rfl, rfl⟩ := hz
         exact ih true (p2.1.drop 2, true) h4 e P4 (Nat.lt_of_lt_of_le r3 f4.1) (g3.trans f4) (by simp only [List.length_drop]; omega)
        | some v =>
         rw [hc] at e hz
         obtain ⟨rfl, rfl⟩ := hz
         have h2 := cut2_len (a := v.1) (b := v.2) hc
         rw [List.length_drop] at h2
         exact ih true (v.2, false) h4 e P4 (Nat.lt_of_lt_of_le r3 f4.1) (g3.trans f4) (by simp only; omega)
theorem aheadF_ok {n : Nat} (hn : 9 ≤ n) {r : Nat} {p q : PS} {d : Int} {h : H} {K : V → H → Prop} (hr16 : 16 ≤ r) (L : Low h) (e : ahL 100000 false p = some q) (P : Prs h r p.1 p.2 d) (hr : r < h.next) (hl : p.1.length < 50000)
  (k : ∀ h', Prs h' r q.1 q.2 d → But h h' (some r) → K (.t []) h') : Ok Tryz.prog n 39 [.p r 0] h K := by
 obtain ⟨n, rfl⟩ := Nat.exists_eq_add_of_le' hn
 refine Ok.bd (K39 fun hbd => ?_)
 unfold F39
 exact ahead_ok (by omega) hr16 L k 100000 false p h e P hr (But.refl _ _) hl
theorem trimS_idem (cs : Bs) : ∀ l : Bs, trimS cs (trimS cs l) = trimS cs l
 | [] => rfl
 | a :: l => by
  rw [trimS_cons]
  cases h : inS cs a with
  | true => rw [if_pos rfl]; exact trimS_idem cs l
  | false => rw [if_neg (by decide), trimS_cons, h, if_neg (by decide)]
theorem blP_idem (p : PS) : blP (blP p) = blP p := by unfold blP; simp only [trimS_idem]
theorem trimS_same {cs : Bs} : ∀ {l : Bs}, ¬ (trimS cs l).length < l.length → trimS cs l = l
 | [], _ => rfl
 | a :: l, h => by
  rw [trimS_cons] at h ⊢
  cases e : inS cs a with
  | true =>
   rw [e, if_pos rfl] at h
   have := trimS_len cs l
   simp only [List.length_cons] at h
   omega
  | false => rw [if_neg (by decide)]
theorem blP_same {p : PS} (h : ¬ (blP p).1.length < p.1.length) : blP p = p := by
 unfold blP at h ⊢
 simp only at h
 rw [trimS_same h]
theorem ah' {n : Nat} (hn : 5 ≤ n) {hS : H} {r v : Nat} {s : Bs} {d : Int} {K : V → H → Prop} (hl : s.length < 50000) {q : PS}
  (k : ∀ h', Rps h' r s q d → But hS h' (some r) → F26_17 pw (mkX Tryz.prog) (Ok Tryz.prog n) (fun v h => Bd h → K v h) (.p v 0) (.p r 0) h') :
  ∀ (m mm : Nat) (o : Bool) (p : PS) (h : H), ahL m o p = some q → m ≤ mm → Rps h r s (blP p) d → But hS h (some r) → F26_107 pw (mkX Tryz.prog) (Ok Tryz.prog n) (fun v h => Bd h → K v h) mm (.p v 0) (.p r 0) (.b o) h := by
 intro m
 induction m with
 | zero => intro mm o p h e; cases e
 | succ m ih =>
  intro mm o p h e hm P f
  obtain ⟨mm, rfl⟩ := Nat.exists_eq_add_of_le' (show 1 ≤ mm by omega)
  rw [ahL] at e
  cases hb : p.2 with
  | true =>
   rw [if_pos hb] at e
   cases e
   have P1 : Rps h r s q d := P.bad hb hb
   obtain ⟨a, g, ty, hg, _, _⟩ := P
   rw [S26_107]
   simp only [nl_p, fa_p, Nat.zero_add]
   rw [l1_a hg rfl, show (blP q).2 = true from hb, nt_b, Bool.not_true, cd_f]
   exact k h P1 f
  | false =>
   rw [if_neg (by rw [hb]; decide)] at e
   by_cases hs : (blP p).1.length < p.1.length
   ·rw [if_pos hs] at e
    exact ih (mm + 1) o (blP p) h e (by omega) (by rw [blP_idem]; exact P) f
   ·rw [if_neg hs] at e
    have hp := blP_same hs
    rw [hp] at P e
    have P0 := P
    obtain ⟨a, g, ty, hg, _, _⟩ := P
    rw [S26_107]
    simp only [nl_p, fa_p, Nat.zero_add]
    rw [l1_a hg rfl, hb, nt_b, Bool.not_false, cd_t]
    unfold F26_111
    simp only [cf_k]
    cases hrm : remP p with
    | none => rw [hrm] at e; cases e
    | some w =>
     obtain ⟨bb, p2⟩ := w
     rw [hrm] at e
     refine remark' (by omega) P0 hl hrm fun h1 P1 f1 => ?_
     cases bb with
     | true =>
      simp only at e
      rw [cd_t]
      refine blanks' (by omega) P1 hl fun h2 P2 f2 => ?_
      exact ih mm o p2 h2 e (by omega) P2 (f.trans (f1.trans f2))
     | false =>
      have := remP_false hrm
      subst this
      simp only at e
      rw [cd_f]
      unfold F26_115
      cases o with
      | true =>
       rw [if_neg (by simp)] at e
       cases e
       simp only [nt_b, Bool.not_true, g1_f, pk_f, cd_f]
       exact k h1 P1 (f.trans f1)
      | false =>
       simp only [nt_b, Bool.not_false, g1_t, cf_k, c26]
       refine take' (by omega) P1 hl (by decide) fun h2 P2 f2 => ?_
       simp only [pk_t]
       cases ht : tkB [60, 63] p2 with
       | false =>
        rw [if_neg (by rw [ht]; simp)] at e
        cases e
        rw [cd_f]
        rw [tkP_not ht] at P2
        exact k h2 P2 (f.trans (f1.trans f2))
       | true =>
        rw [if_pos ⟨rfl, ht⟩] at e
        rw [cd_t]
        rw [tkP_of ht] at P2
        try simp only [cf_k, c26]
        refine till' (by omega) P2 hl (by simp) (by decide) fun h3 P3 f3 => ?_
        refine blanks' (by omega) P3 hl fun h4 P4 f4 => ?_
        have f4' := f.trans (f1.trans (f2.trans (f3.trans f4)))
        have et : toT [63, 62] (p2.1.drop 2, false) = match cut2 63 62 (p2.1.drop 2) with
         | some q => (q.1, (q.2, false))
         | none => ([], (p2.1.drop 2, true)) := by
         unfold toT
         rw [if_neg Bool.false_ne_true, ← cutT_2]; rfl
        have P4 : Rps h4 r s (blP (toT [63, 62] (p2.1.drop 2, false)).2) d := P4
        rw [et] at P4
        cases hc : cut2 63 62 (p2.1.drop 2) with
        | none =>
         rw [hc] at e P4
         exact ih mm true (p2.1.drop 2, true) h4 e (by omega) P4 f4'
        | some w =>
         rw [hc] at e P4
         exact ih mm true (w.2, false) h4 e (by omega) P4 f4'
structure VarS (hS h : H) (q : Nat) (cs : List V) : Prop where
 g : h.mem.get q = some (.c cs 77 true)
 l : cs.length = 3
 q0 : hS.next ≤ q
 q1 : q < h.next
theorem VarS.keep {hS h h' : H} {q r : Nat} {cs : List V} (v : VarS hS h q cs) (f : But h h' (some r)) (hr : q ≠ r) : VarS hS h' q cs := ⟨f.get v.q1 (fun e => hr (Option.some.inj e)) v.g, v.l, v.q0, Nat.lt_of_lt_of_le v.q1 f.1⟩
theorem VarS.keep0 {hS h h' : H} {q : Nat} {cs : List V} (v : VarS hS h q cs) (f : But h h' none) : VarS hS h' q cs := ⟨f.get v.q1 (by simp) v.g, v.l, v.q0, Nat.lt_of_lt_of_le v.q1 f.1⟩
theorem TsA.zero (h : H) (N : Nat → Prop) : TsA h N XT0 ([], [], .ns) := ⟨rfl, rfl, [], ⟨rfl, .inl ⟨rfl, rfl⟩⟩, (fun q hq => by cases hq), rfl⟩
theorem pe' {n : Nat} {r v t : Nat} {s : Bs} {hS h : H} {p q : PS} {d : Int} {cs : List V} {tr tr0 : XT} {e : Te} {K : V → H → Prop} (P : Rps h r s p d) (V1 : VarS hS h v cs) (T : VarS hS h t (encT e)) (A : TsA h (fun q => hS.next ≤ q ∧ q ≠ v) tr e) (f : But hS h none)
  (hq : p.2 = (decide (q.2 = true ∨ q.1 ≠ []))) (ht : q.2 = false → tr = tr0)
  (k : ∀ h' e t', But hS h' none → TsA h' (fun q => hS.next ≤ q) t' e → ((endP tr0 q d).2 = 0 → t' = (endP tr0 q d).1) → K (.t [.a (encT e), .i .i64 (endP tr0 q d).2]) h') : F26_26 pw (mkX Tryz.prog) (Ok Tryz.prog n) (fun v h => Bd h → K v h) (.p v 0) (.p r 0) (.p t 0) h := by
 obtain ⟨a, g, ty, hg, _, hp⟩ := P
 unfold F26_26
 simp only [nl_p, fa_p, Nat.zero_add]
 rw [l1_a hg rfl]
 have zero : ∀ c, endP tr0 q d = (XT0, c) → pw.bl (mkX Tryz.prog) 77 [] fun v51 => pw.sn 3 (.p v 0) v51 h fun h52 => pw.ln 3 (.p v 0) h52 fun v54 => Bd h52 → K (.t [v54, .i .i64 c]) h52 := by
  intro c hc
  rw [hc] at k
  refine bl_a (v := .a [.s [], .s [], .ns]) ?_ ?_
  ·unfold blW
   rw [ti_some _ tt77]
   rfl
  refine sn_w V1.g (cs := [.s [], .s [], .ns]) rfl rfl V1.l rfl fun h1 g1 f1 => ?_
  rw [ln_w (sz := 3) g1 rfl]
  intro _
  exact k h1 ([], [], .ns) XT0 (f.over f1 (.inr fun z e => by cases e; exact V1.q0)) (TsA.zero _ _) fun _ => rfl
 by_cases hb : q.2 = true ∨ q.1 ≠ []
 ·rw [decide_eq_true hb] at hq
  rw [hq, cd_t]
  exact zero 9 (by unfold endP; rw [if_pos hb])
 ·rw [decide_eq_false hb] at hq
  rw [hq, cd_f]
  unfold F26_30
  simp only [nl_p, fa_p, Nat.zero_add]
  rw [l1_a hg rfl, (hp hq).2]
  by_cases hd : 8 < d
  ·rw [decide_eq_true hd, cd_t]
   exact zero 2 (by unfold endP; rw [if_neg hb, if_pos hd])
  ·rw [decide_eq_false hd, cd_f]
   have hE : endP tr0 q d = (tr0, 0) := by unfold endP; rw [if_neg hb, if_neg hd]
   rw [hE] at k
   unfold F26_34
   rw [ln_w (sz := 3) T.g (encT_len e)]
   refine sn_w V1.g (cs := encT e) rfl (encT_len e) V1.l (enc_oneS A) fun h1 g1 f1 => ?_
   rw [ln_w (sz := 3) g1 (encT_len e)]
   intro _
   have hqf : q.2 = false := by
    cases hx : q.2 with
    | false => rfl
    | true => exact absurd (.inl hx) hb
   refine k h1 e tr (f.over f1 (.inr fun z e => by cases e; exact V1.q0)) (A.keep ⟨f1.1, fun q hq hN => f1.2.1 q hq fun e => hN.2 (Option.some.inj e)⟩ fun q _ h => h.1) fun _ => ht hqf
theorem pt' {n : Nat} (hn : 5 ≤ n) {r v t : Nat} {s : Bs} {d : Int} {hS : H} {cs : List V} {tr tr0 : XT} {ew : Te} {K : V → H → Prop} (hl : s.length < 50000) (hrS : hS.next ≤ r) (hvr : v ≠ r) (htr : t ≠ r) {q : PS} (ht : q.2 = false → tr = tr0)
  (k : ∀ h' e t', But hS h' none → TsA h' (fun q => hS.next ≤ q) t' e → ((endP tr0 q d).2 = 0 → t' = (endP tr0 q d).1) → K (.t [.a (encT e), .i .i64 (endP tr0 q d).2]) h') :
  ∀ (mm m : Nat) (p : PS) (h : H), trL m p = some q → (p.2 = false → p.1.length + 2 ≤ mm) → 1 ≤ mm → Rps h r s p d → VarS hS h v cs → VarS hS h t (encT ew) → TsA h (fun q => hS.next ≤ q ∧ q ≠ v ∧ q ≠ r) tr ew → But hS h none →
   F26_57 pw (mkX Tryz.prog) (Ok Tryz.prog n) (fun v h => Bd h → K v h) mm (.p v 0) (.p r 0) (.p t 0) h := by
 intro mm
 induction mm with
 | zero => intro m p h _ _ h1; omega
 | succ mm ih =>
  intro m p h e hm _ P V1 T A f
  have keepA : ∀ {h h' : H}, TsA h (fun q => hS.next ≤ q ∧ q ≠ v ∧ q ≠ r) tr ew → But h h' (some r) → TsA h' (fun q => hS.next ≤ q ∧ q ≠ v ∧ q ≠ r) tr ew := fun A f => A.keep ⟨f.1, fun q hq hN => f.2.1 q hq fun e => hN.2.2 (Option.some.inj e)⟩ fun q _ h => h
  have fin : ∀ {h : H} {p : PS}, p.2 = (decide (q.2 = true ∨ q.1 ≠ [])) → Rps h r s p d → VarS hS h v cs → VarS hS h t (encT ew) → TsA h (fun q => hS.next ≤ q ∧ q ≠ v ∧ q ≠ r) tr ew → But hS h none → F26_26 pw (mkX Tryz.prog) (Ok Tryz.prog n) (fun v h => Bd h → K v h) (.p v 0) (.p r 0) (.p t 0) h := by
   intro h p hq P V1 T A f
   exact pe' P V1 T (A.keep ⟨Nat.le_refl _, fun _ _ _ => rfl⟩ fun q _ h => ⟨h.1, h.2.1⟩) f hq ht k
  have P0 := P
  obtain ⟨a, g, ty, hg, ha, hp⟩ := P
  have l0 : ∀ κ : V → Prop, pw.l1 (.p r 0) h κ = κ (.s s) := fun κ => l1_a hg rfl
  have l1 : ∀ κ : V → Prop, pw.l1 (.p r 1) h κ = κ (.i .i64 a) := fun κ => l1_a hg rfl
  have l2 : ∀ κ : V → Prop, pw.l1 (.p r 2) h κ = κ (.b p.2) := fun κ => l1_a hg rfl
  have lgs : ∀ κ : V → Prop, pw.lg (mkX Tryz.prog) 9 (.s s) κ = κ (.i .i64 (s.length : Int)) := fun κ => lg_s tt9 rfl
  rw [S26_57]
  simp only [nl_p, fa_p, Nat.zero_add, l2, nt_b]
  cases m with
  | zero => cases e
  | succ m =>
  rw [trL] at e
  cases hb : p.2 with
  | true =>
   rw [if_pos hb] at e
   cases e
   simp only [Bool.not_true, g1_f, pk_f, cd_f]
   exact fin (by rw [decide_eq_true (Or.inl hb)]; exact hb) P0 V1 T A f
  | false =>
   rw [if_neg (by rw [hb]; decide)] at e
   have hm := hm hb
   obtain ⟨hd, _⟩ := hp hb
   have hlen := congrArg List.length hd
   rw [List.length_drop] at hlen
   simp only [Bool.not_false, g1_t, nl_p, fa_p, Nat.zero_add, l0, l1, lgs]
   rw [lt_i]
   by_cases hnil : p.1 = []
   ·have hq : q = p := by
     have e1 : blP p = p := by unfold blP; rw [hnil]; simp only [trimS]; rw [← hnil]
     rw [e1, if_neg (Nat.lt_irrefl _), remP_no (by unfold tkB hasP rmk; rw [hnil]; rfl)] at e
     exact (Option.some.inj e).symm
    rw [hnil, List.length_nil] at hlen
    rw [decide_eq_false (show ¬ (a : Int) < s.length by omega)]
    simp only [pk_t, cd_f]
    refine fin ?_ P0 V1 T A f
    rw [hq, hb, decide_eq_false]
    rintro (h1 | h1)
    ·cases h1
    ·exact h1 hnil
   ·have hpos := List.length_pos_iff.2 hnil
    rw [decide_eq_true (show (a : Int) < s.length by omega)]
    simp only [pk_t, cd_t]
    unfold F26_61
    simp only [cf_k]
    refine blanks' (by omega) P0 hl fun h1 P1 f1 => ?_
    have g1 := f.over f1 (.inr fun z e => by cases e; exact hrS)
    have hbk : bkB p = decide ((blP p).1.length < p.1.length) := by unfold bkB; rw [hb]; rfl
    rw [hbk, nt_b]
    have lb := blP_le p
    by_cases hs : (blP p).1.length < p.1.length
    ·rw [if_pos hs] at e
     rw [decide_eq_true hs]
     simp only [Bool.not_true, g1_f, pk_f, cd_f]
     exact ih m (blP p) h1 e (fun _ => by omega) (by omega) P1 (V1.keep f1 hvr) (T.keep f1 htr) (keepA A f1) g1
    ·rw [if_neg hs] at e
     rw [decide_eq_false hs]
     simp only [Bool.not_false, g1_t]
     have hpp := blP_same hs
     rw [hpp] at P1 e
     cases hrm : remP p with
     | none => rw [hrm] at e; cases e
     | some w =>
      obtain ⟨bb, p2⟩ := w
      rw [hrm] at e
      refine remark' (by omega) P1 hl hrm fun h2 P2 f2 => ?_
      have g2 := g1.over f2 (.inr fun z e => by cases e; exact hrS)
      have V2 := (V1.keep f1 hvr).keep f2 hvr
      have T2 := (T.keep f1 htr).keep f2 htr
      have A2 := keepA (keepA A f1) f2
      cases bb with
      | true =>
       simp only at e
       have hlt := remP_lt hrm
       simp only [nt_b, Bool.not_true, pk_t, cd_f]
       exact ih m p2 h2 e (fun _ => by omega) (by omega) P2 V2 T2 A2 g2
      | false =>
       have := remP_false hrm
       subst this
       simp only at e
       cases e
       simp only [nt_b, Bool.not_false, pk_t, cd_t]
       obtain ⟨a2, gg2, ty2, hg2, ha2, _⟩ := P2
       try simp only [nl_p, fa_p, Nat.zero_add]
       refine s1_a hg2 (by simp) rfl fun h3 hg3 f3 => ?_
       have g3 := g2.over f3 (.inr fun z e => by cases e; exact hrS)
       obtain ⟨mm, rfl⟩ := Nat.exists_eq_add_of_le' (show 1 ≤ mm by omega)
       have l2' : ∀ κ : V → Prop, pw.l1 (.p r 2) h3 κ = κ (.b true) := fun κ => l1_a hg3 rfl
       rw [S26_57]
       simp only [nl_p, fa_p, Nat.zero_add, l2', nt_b, Bool.not_true, g1_f, pk_f, cd_f]
       exact fin (p := ([], true)) (by rw [decide_eq_true (.inr hnil)]) ⟨a2, gg2, ty2, hg3, ha2, fun e => by cases e⟩ (V2.keep f3 hvr) (T2.keep f3 htr) (keepA A2 f3) g3
structure Var3 (hS h : H) (q : Nat) (cs : List V) : Prop where
 g : h.mem.get q = some (.c cs 63 true)
 l : cs.length = 3
 q0 : hS.next ≤ q
 q1 : q < h.next
theorem Var3.keep {hS h h' : H} {q r : Nat} {cs : List V} (v : Var3 hS h q cs) (f : But h h' (some r)) (hr : q ≠ r) : Var3 hS h' q cs := ⟨f.get v.q1 (fun e => hr (Option.some.inj e)) v.g, v.l, v.q0, Nat.lt_of_lt_of_le v.q1 f.1⟩
theorem Var3.keep0 {hS h h' : H} {q : Nat} {cs : List V} (v : Var3 hS h q cs) (f : But h h' none) : Var3 hS h' q cs := ⟨f.get v.q1 (by simp) v.g, v.l, v.q0, Nat.lt_of_lt_of_le v.q1 f.1⟩
theorem TrA.zero (h : H) (N : Nat → Prop) : TrA h N XT0 ([], [], .ns) := ⟨rfl, rfl, [], ⟨rfl, .inl ⟨rfl, rfl⟩⟩, (fun q hq => by cases hq), rfl⟩
theorem zero_e {e : Te} (he : e = ([], [], .ns)) : encT e = [.s [], .s [], .ns] := by rw [he]; rfl
theorem pend_ok {n : Nat} {r v t : Nat} {hS h : H} {p : PS} {d : Int} {cs : List V} {tr : XT} {e : Te} {K : V → H → Prop} (P : Prs h r p.1 p.2 d) (V1 : Var3 hS h v cs) (T : Var3 hS h t (encT e)) (A : TrA h (fun q => hS.next ≤ q ∧ q ≠ v) tr e) (f : But hS h none)
  (k : ∀ h' e, But hS h' none → TrA h' (fun q => hS.next ≤ q) (endP tr p d).1 e → K (.t [.a (encT e), .i .i64 (endP tr p d).2]) h') : F22_23 pw (mkX Tryz.prog) (Ok Tryz.prog n) (fun v h => Bd h → K v h) (.p v 0) (.p r 0) (.p t 0) h := by
 obtain ⟨ty, hg⟩ := P
 unfold F22_23
 simp only [nl_p, fa_p, Nat.zero_add]
 have r0 : ∀ κ : V → Prop, pw.l1 (.p r 0) h κ = κ (.s p.1) := fun κ => l1_a hg rfl
 have r1 : ∀ κ : V → Prop, pw.l1 (.p r 1) h κ = κ (.b p.2) := fun κ => l1_a hg rfl
 have r2 : ∀ κ : V → Prop, pw.l1 (.p r 2) h κ = κ (.i .i64 d) := fun κ => l1_a hg rfl
 simp only [r1]
 have zero : ∀ c, endP tr p d = (XT0, c) → pw.bl (mkX Tryz.prog) 63 [] fun v51 => pw.sn 3 (.p v 0) v51 h fun h52 => pw.ln 3 (.p v 0) h52 fun v54 => Bd h52 → K (.t [v54, .i .i64 c]) h52 := by
  intro c hc
  rw [hc] at k
  refine bl_a (v := .a [.s [], .s [], .ns]) ?_ ?_
  ·unfold blW
   rw [ti_some _ tt63]
   rfl
  refine sn_w V1.g (cs := [.s [], .s [], .ns]) rfl rfl V1.l rfl fun h1 g1 f1 => ?_
  rw [ln_w (sz := 3) g1 rfl]
  intro _
  exact k h1 ([], [], .ns) (f.over f1 (.inr fun z e => by cases e; exact V1.q0)) (TrA.zero _ _)
 by_cases hb : p.2 = true
 ·have := zero 9 (by unfold endP; rw [if_pos (.inl hb)])
  rw [hb]
  simp only [g0_t, pk_t, cd_t]
  exact this
 ·have hb' : p.2 = false := by simpa using hb
  rw [hb']
  simp only [g0_f, nl_p, fa_p, Nat.zero_add, r0, r2]
  rw [ne_s]
  by_cases hs : p.1 = []
  ·have h1 : (!(p.1 == ([] : Bs))) = false := by rw [hs]; rfl
   rw [h1]
   simp only [pk_f, cd_f]
   rw [gt_i]
   by_cases hd : 8 < d
   ·rw [decide_eq_true hd, cd_t]
    exact zero 2 (by unfold endP; rw [if_neg (by simp [hb', hs]), if_pos hd])
   ·rw [decide_eq_false hd, cd_f]
    have hE : endP tr p d = (tr, 0) := by unfold endP; rw [if_neg (by simp [hb', hs]), if_neg hd]
    rw [hE] at k
    unfold F22_27
    rw [ln_w (sz := 3) T.g (encT_len e)]
    have one : (encT e).all oneV = true := by
     cases tr with
     | node nn tt kk =>
      obtain ⟨_, _, es', v7, _⟩ := A
      have : oneV e.2.2 = true := by
       obtain ⟨_, ⟨h1, _⟩ | ⟨_, _, _, _, h1, _⟩⟩ := v7 <;> rw [h1] <;> rfl
      show (true && (true && (oneV e.2.2 && true))) = true
      rw [this]; rfl
    refine sn_w V1.g (cs := encT e) rfl (encT_len e) V1.l one fun h1 g1 f1 => ?_
    rw [ln_w (sz := 3) g1 (encT_len e)]
    intro _
    refine k h1 e (f.over f1 (.inr fun z e => by cases e; exact V1.q0)) (A.keep ⟨f1.1, fun q hq hN => f1.2.1 q hq fun e => hN.2 (Option.some.inj e)⟩ fun q _ h => h.1)
  ·have h1 : (!(p.1 == ([] : Bs))) = true := by simpa using hs
   rw [h1]
   simp only [pk_f, cd_t]
   exact zero 9 (by unfold endP; rw [if_pos (.inr hs)])
theorem ptl_ok {n : Nat} (hn : 7 ≤ n) {r v t : Nat} {d : Int} {hS : H} {cs : List V} {tr : XT} {ew : Te} {K : V → H → Prop} (hr16 : 16 ≤ r) (hrS : hS.next ≤ r) (L : Low hS) (hvr : v ≠ r) (htr : t ≠ r) {q : PS}
  (k : ∀ h' e, But hS h' none → TrA h' (fun q => hS.next ≤ q) (endP tr q d).1 e → K (.t [.a (encT e), .i .i64 (endP tr q d).2]) h') :
  ∀ (m : Nat) (p : PS) (h : H), trL m p = some q → Prs h r p.1 p.2 d → r < h.next → Var3 hS h v cs → Var3 hS h t (encT ew) → TrA h (fun q => hS.next ≤ q ∧ q ≠ v ∧ q ≠ r) tr ew → But hS h none → p.1.length < 50000 →
   F22_65 pw (mkX Tryz.prog) (Ok Tryz.prog n) (fun v h => Bd h → K v h) m (.p v 0) (.p r 0) (.p t 0) h := by
 intro m
 induction m with
 | zero => intro p h e; cases e
 | succ m ih =>
  intro p h e P hr V1 T A f hl
  have low : ∀ {h' : H}, But hS h' none → Low h' := fun f => L.keep f (fun q e => by cases e)
  have P0 := P
  obtain ⟨ty, hg⟩ := P0
  have fin : ∀ {h : H} {p : PS}, q = p → Prs h r p.1 p.2 d → Var3 hS h v cs → Var3 hS h t (encT ew) → TrA h (fun q => hS.next ≤ q ∧ q ≠ v ∧ q ≠ r) tr ew → But hS h none → F22_23 pw (mkX Tryz.prog) (Ok Tryz.prog n) (fun v h => Bd h → K v h) (.p v 0) (.p r 0) (.p t 0) h := by
   intro h p hq P V1 T A f
   subst hq
   exact pend_ok P V1 T (A.keep ⟨Nat.le_refl _, fun _ _ _ => rfl⟩ fun q _ h => ⟨h.1, h.2.1⟩) f k
  have keepA : ∀ {h h' : H}, TrA h (fun q => hS.next ≤ q ∧ q ≠ v ∧ q ≠ r) tr ew → But h h' (some r) → TrA h' (fun q => hS.next ≤ q ∧ q ≠ v ∧ q ≠ r) tr ew := fun A f => A.keep ⟨f.1, fun q hq hN => f.2.1 q hq fun e => hN.2.2 (Option.some.inj e)⟩ fun q _ h => h
  show pw.nl _ _
  simp only [nl_p, fa_p, Nat.zero_add]
  rw [l1_a hg rfl, nt_b]
  rw [trL] at e
  cases hb : p.2 with
  | true =>
   rw [if_pos hb] at e
   cases e
   simp only [Bool.not_true, g1_f, pk_f, cd_f]
   exact fin rfl P V1 T A f
  | false =>
   rw [if_neg (by rw [hb]; decide)] at e
   simp only [Bool.not_false, g1_t, cf_k]
   have lb := blP_le p
   refine blanks_ok (by omega) P hr hl fun h1 P1 f1 => ?_
   have P1 : Prs h1 r (blP p).1 (blP p).2 d := P1
   have r1 : r < h1.next := Nat.lt_of_lt_of_le hr f1.1
   have g1 := f.over f1 (.inr fun z e => by cases e; exact hrS)
   have eb : decide ((trimS blk p.1).length < p.1.length) = decide ((blP p).1.length < p.1.length) := rfl
   rw [eb]
   by_cases hs : (blP p).1.length < p.1.length
   ·rw [if_pos hs] at e
    rw [decide_eq_true hs]
    simp only [g0_t, pk_t, cd_t]
    exact ih _ h1 e P1 r1 (V1.keep f1 hvr) (T.keep f1 htr) (keepA A f1) g1 (by omega)
   ·rw [if_neg hs] at e
    rw [decide_eq_false hs]
    simp only [g0_f]
    cases hrm : remP (blP p) with
    | none => rw [hrm] at e; cases e
    | some v =>
     obtain ⟨bb, p2⟩ := v
     have lrm := remP_le hrm
     rw [hrm] at e
     refine rem_ok (by omega) (low g1) hr16 P1 (by omega) hrm fun h2 P2 f2 => ?_
     have g2 := g1.over f2 (.inr fun z e => by cases e; exact hrS)
     have r2 : r < h2.next := Nat.lt_of_lt_of_le r1 f2.1
     have V2 := (V1.keep f1 hvr).keep f2 hvr
     have T2 := (T.keep f1 htr).keep f2 htr
     have A2 := keepA (keepA A f1) f2
     cases bb with
     | true =>
      simp only at e
      simp only [pk_f, pk_t, cd_t]
      exact ih _ h2 e P2 r2 V2 T2 A2 g2 (by omega)
     | false =>
      simp only at e
      cases e
      simp only [pk_f, pk_t, cd_f]
      exact fin rfl P2 V2 T2 A2 g2
theorem parse_ok {k n : Nat} (hn : 15 + k ≤ n) (hk : k ≤ 100000) {s : Bs} (hs : s.length ≤ 8192) {t : XT} {c : Int} (e : parseP k s = some (t, c)) {h : H} (L : Low h) (TT : TB h) {K : V → H → Prop}
  (kk : ∀ h' e, But h h' none → TrA h' (fun q => h.next ≤ q) t e → K (.t [.a (encT e), .i .i64 c]) h') : Ok Tryz.prog n 22 [.s s] h K := by
 obtain ⟨n, rfl⟩ := Nat.exists_eq_add_of_le' (show 1 ≤ n by omega)
 refine Ok.bd (K22 fun hbd => ?_)
 unfold F22
 refine al_a tt63 fun v h1 g1 f1 v1 v2 => ?_
 rw [lg_s tt9 rfl, gt_i, decide_eq_false (show ¬ (8192 : Int) < (s.length : Nat) by omega), cd_f]
 unfold F22_4
 rw [cf_k]
 have low : ∀ {h' : H}, But h h' none → Low h' := fun f => L.keep f (fun q e => by cases e)
 refine cleanG_ok (by omega) (by omega) (TT.keep f1 (fun z e => by cases e)) fun h2 f2 => ?_
 rw [nt_b]
 refine bl_a (v := .a [.s s, .b (!clnB s), .i .i64 0]) ?_ ?_
 ·unfold blW
  rw [ti_some _ tt97]
  rfl
 refine bx_a (cs := [.s s, .b (!clnB s), .i .i64 0]) rfl fun r h3 g3 f3 r1 r2 => ?_
 have V1 : Var3 h h1 v [.s [], .s [], .ns] := ⟨g1, rfl, v1, v2⟩
 have V3 := (V1.keep0 f2).keep0 f3
 have f13 := (f1.trans f2).trans f3
 have P3 : Prs h3 r s (!clnB s) 0 := ⟨97, g3⟩
 have hv2 := Nat.lt_of_lt_of_le v2 f2.1
 have hvr : v ≠ r := by omega
 have hr16 : 16 ≤ r := Nat.le_trans (low (f1.trans f2)).nx r1
 have hrS : h.next ≤ r := Nat.le_trans (f1.trans f2).1 r1
 unfold parseP at e
 cases ha : ahL 100000 false (s, !clnB s) with
 | none => rw [ha] at e; cases e
 | some p1 =>
  rw [ha] at e
  have la := ahL_le _ ha
  have lw := wtP_le [60] p1
  simp only at e la
  simp only [cf_k]
  refine aheadF_ok (p := (s, !clnB s)) (by omega) hr16 (low f13) ha P3 r2 (by simp only; omega) fun h4 P4 f4 => ?_
  have f14 := f13.over f4 (.inr fun z e => by cases e; exact hrS)
  have V4 := V3.keep f4 hvr
  simp only [c22]
  refine want_ok (by omega) P4 fun h5 P5 f5 => ?_
  have f15 := f14.over f5 (.inr fun z e => by cases e; exact hrS)
  have V5 := V4.keep f5 hvr
  have P5 : Prs h5 r (wtP [60] p1).1 (wtP [60] p1).2 0 := P5
  have r5 : r < h5.next := Nat.lt_of_lt_of_le r2 (Nat.le_trans f4.1 f5.1)
  refine al_a tt63 fun tv h6 g6 f6 t1 t2 => ?_
  have f16 := f15.trans f6
  have V6 := V5.keep0 f6
  have P6 := P5.keep f6 r5 (by simp)
  have htr : tv ≠ r := by omega
  have hvt : v ≠ tv := by have := V5.q1; omega
  have r6 : r < h6.next := Nat.lt_of_lt_of_le r5 f6.1
  have T6 : Var3 h h6 tv (encT ([], [], .ns)) := ⟨g6, rfl, Nat.le_trans f15.1 t1, t2⟩
  obtain ⟨ty6, hg6⟩ := P6
  simp only [nl_p, fa_p, Nat.zero_add]
  rw [l1_a hg6 rfl, nt_b]
  cases hw : (wtP [60] p1).2 with
  | true =>
   rw [if_pos hw] at e
   have e := Option.some.inj e
   have et : t = (endP XT0 (wtP [60] p1) 0).1 := (congrArg Prod.fst e).symm
   have ec : c = (endP XT0 (wtP [60] p1) 0).2 := (congrArg Prod.snd e).symm
   subst et
   subst ec
   rw [Bool.not_true, cd_f]
   unfold F22_19
   exact ptl_ok (by omega) hr16 hrS L hvr htr (d := 0) (q := wtP [60] p1) kk 100000 (wtP [60] p1) h6 (by rw [show (100000 : Nat) = 99999 + 1 from rfl, trL, if_pos hw]) ⟨ty6, hg6⟩ r6 V6 T6 (TrA.zero _ _) f16 (by omega)
  | false =>
   rw [if_neg (by rw [hw]; decide)] at e
   rw [Bool.not_false, cd_t]
   cases hT : treeP k 1 (wtP [60] p1) 0 with
   | none => rw [hT] at e; cases e
   | some w =>
    obtain ⟨t', p3, d3⟩ := w
    rw [hT] at e
    simp only at e
    have lt := treeP_le k hT
    refine tree_ok k (by omega) 1 (by omega) (by omega) r _ _ _ _ _ h6 _ hr16 hT ⟨ty6, hg6⟩ (low f16) r6 (by omega) fun h7 e7 P7 f7 A7 => ?_
    have f17 := f16.over f7 (.inr fun z e => by cases e; exact hrS)
    have V7 := V6.keep f7 hvr
    have T7 := T6.keep f7 htr
    have one : (encT e7).all oneV = true := by
     cases t' with
     | node nn tt kk =>
      obtain ⟨_, _, es', v7, _⟩ := A7
      have : oneV e7.2.2 = true := by
       obtain ⟨_, ⟨h1, _⟩ | ⟨_, _, _, _, h1, _⟩⟩ := v7 <;> rw [h1] <;> rfl
      show (true && (true && (oneV e7.2.2 && true))) = true
      rw [this]; rfl
    refine sn_w T7.g (cs := encT e7) rfl (encT_len e7) T7.l one fun h8 g8 f8 => ?_
    have T8 : Var3 h h8 tv (encT e7) := ⟨g8, encT_len e7, T7.q0, Nat.lt_of_lt_of_le T7.q1 f8.1⟩
    have V8 := V7.keep f8 hvt
    have f18 := f17.over f8 (.inr fun z e => by cases e; exact T7.q0)
    have P8 := P7.keep f8 (Nat.lt_of_lt_of_le r6 f7.1) (fun e => htr (Option.some.inj e))
    unfold F22_19
    cases hL : trL 100000 p3 with
    | none => rw [hL] at e; cases e
    | some p4 =>
     rw [hL] at e
     have e := Option.some.inj e
     have et : t = (endP t' p4 d3).1 := (congrArg Prod.fst e).symm
     have ec : c = (endP t' p4 d3).2 := (congrArg Prod.snd e).symm
     subst et
     subst ec
     have hv6 := V6.q1
     refine ptl_ok (by omega) hr16 hrS L hvr htr (d := d3) (q := p4) kk 100000 p3 h8 hL P8 (Nat.lt_of_lt_of_le r6 (Nat.le_trans f7.1 f8.1)) V8 T8 (A7.keep ⟨f8.1, fun q hq hN => f8.2.1 q hq fun e => ?_⟩ fun q hq hN => ⟨Nat.le_trans f16.1 hN, by omega, by omega⟩) f18 (by omega)
     cases e
     omega
end Go.Proofs.YtbkhielalbbopaaGreatDoor.Wb
