/- The parser's trees: the loop over a tree's text and kids, the tree. -/
import Derived.Test.YtbkhielalbbopaaGreatDoorZq4
set_option linter.unusedSimpArgs false
set_option linter.unusedVariables false
set_option linter.unusedSectionVars false
set_option linter.unnecessarySimpa false
set_option maxRecDepth 100000
namespace Go.Proofs.YtbkhielalbbopaaGreatDoor.Wb
open Go Go.Am Go.Am.Xm

theorem badT_ok {r : Nat} {h : H} {s : Bs} {d : Int} {hd : Bs} (P : Prs h r s (false || badT hd) d) : Prs h r s (badT hd) d := by rw [Bool.false_or] at P; exact P

theorem trl_ok {n : Nat} (hn : 12 ≤ n) {hS : H} {r tv rv : Nat} {nm : Bs} {dp : Int} {rc : PS → Int → Option (XT × PS × Int)} {K : V → H → Prop} (hr16 : 16 ≤ r) (L : Low hS) {oT : Bs} {oK : List XT} {q : PS} {dq : Int}
    (hdp : -9223372036854775808 ≤ dp + 1 ∧ dp + 1 ≤ 9223372036854775807)
    (hrl : ∀ {p d t q e}, rc p d = some (t, q, e) → q.1.length ≤ p.1.length)
    (hrc : ∀ (p : PS) (d : Int) (t : XT) (p' : PS) (d' : Int) (h : H) (K : V → H → Prop), rc p d = some (t, p', d') → Prs h r p.1 p.2 d → Low h → r < h.next → p.1.length < 50000 →
      (∀ h' e, Prs h' r p'.1 p'.2 d' → But h h' (some r) → TrA h' (fun q => h.next ≤ q) t e → K (.a (encT e)) h') → Ok Tryz.prog n 41 [.p r 0, .i .i64 (dp + 1)] h K)
    (k : ∀ h' e, Prs h' r q.1 q.2 dq → But hS h' (some r) → TrA h' (fun q => hS.next ≤ q) (.node (plainS nm) oT oK) e → K (.a (encT e)) h') :
    ∀ (m : Nat) (tx : Bs) (ks : List XT) (p : PS) (d : Int) (h : H), treeL rc nm m tx ks p d = some ((oT, oK), q, dq) → Trl hS h r tv rv (plainS nm) tx ks → Prs h r p.1 p.2 d → p.1.length < 50000 → tx.length + 4 * p.1.length ≤ 400000 → ks.length + m ≤ 100000 →
      F41_32 pw (mkX Tryz.prog) (Ok Tryz.prog n) (fun v h => Bd h → K v h) m (.p r 0) (.i .i64 dp) (.p rv 0) (.s nm) (.b false) (.p tv 0) h := by
  intro m
  induction m with
  | zero => intro tx ks p d h e; cases e
  | succ m ih =>
    intro tx ks p d h e T P hl ht hk
    have hr := T.f
    have rh : r < h.next := Nat.lt_of_lt_of_le T.rS T.f.1
    have P0 := P
    obtain ⟨ty, hg⟩ := P0
    have low : ∀ {h' : H}, But hS h' (some r) → Low h' := fun f => L.keep f (fun q e => by cases e; exact hr16)
    rw [S41_32]
    simp only [nt_b, Bool.not_false, g1_t, nl_p, fa_p, Nat.zero_add]
    rw [l1_a hg rfl, nt_b]
    simp only [pk_t]
    rw [treeL] at e
    cases hb : p.2 with
    | true =>
      rw [if_pos hb] at e
      cases e
      rw [Bool.not_true, cd_f]
      unfold F41_26
      exact T.fin P k
    | false =>
      rw [if_neg (by rw [hb]; decide)] at e
      rw [Bool.not_false, cd_t]
      unfold F41_39
      simp only [nl_p, fa_p, Nat.zero_add]
      rw [l1_a hg rfl]
      simp only [cf_k, c41]
      refine cut_ok (by omega) (by omega) (fun a b ec => ?_) (fun ec => ?_)
      · -- a text, then <
        rw [ec] at e
        simp only at e
        have hcl := cut1_len ec
        have hol := outT_len a
        simp only [ex_t, List.getElem?_cons_zero, List.getElem?_cons_succ, oP_some, nt_b, Bool.not_true, cd_f]
        unfold F41_58
        simp only [fa_p, Nat.zero_add]
        obtain ⟨kv, es, c1, c2, c3, c4⟩ := T.k
        rw [l1_a c1 rfl]
        simp only [cf_k]
        refine text_ok (by omega) P rh (low T.f) (by omega) fun h1 P1 f1 => ?_
        rw [hb] at P1
        have P1 := badT_ok P1
        have T1 := T.keep f1
        obtain ⟨kv1, es1, d1, d2, d3, d4⟩ := T1.k
        have g1 := f1.get T.tv1 (fun e => by cases e; have := T.tv0; have := T.rS; omega) c1
        rw [ad_s (by omega)]
        refine T1.text (tx ++ outT a) fun h2 f2 T2 => ?_
        have P2 := P1.keep f2 (Nat.lt_of_lt_of_le rh f1.1) (fun e => by cases e; have := T.tv0; have := T.rS; omega)
        refine ck_1 p58 (againW_l tt9 rfl rfl T.tv1 c1 rfl) (fun pr hpr => ?_) ?_
        · simp only [List.mem_singleton] at hpr
          subst hpr
          exact againW_l tt9 rfl rfl T1.tv1 g1 rfl
        obtain ⟨ty2, hg2⟩ := P2
        simp only [nl_p, fa_p, Nat.zero_add]
        rw [l1_a hg2 rfl, lg_s tt9 rfl, sc_d (by omega)]
        refine s1_a hg2 (by simp) rfl fun h3 hg3 f3 => ?_
        have T3 := T2.keep f3
        have P3 : Prs h3 r (p.1.drop a.length) (badT a) d := ⟨ty2, hg3⟩
        have r3 : r < h3.next := Nat.lt_of_lt_of_le T3.rS T3.f.1
        have dl : (p.1.drop a.length).length = p.1.length - a.length := List.length_drop ..
        have hx : (tx ++ outT a).length ≤ tx.length + 4 * a.length := by rw [List.length_append]; omega
        cases hrm : remP (p.1.drop a.length, badT a) with
        | none => rw [hrm] at e; cases e
        | some v =>
          obtain ⟨bb, p3⟩ := v
          have lrm := remP_le hrm
          simp only at lrm
          rw [hrm] at e
          refine rem_ok (by omega) (low T3.f) hr16 P3 (by simp only; omega) hrm fun h4 P4 f4 => ?_
          have T4 := T3.keep f4
          have r4 : r < h4.next := Nat.lt_of_lt_of_le T4.rS T4.f.1
          cases bb with
          | true =>
            simp only at e
            rw [cd_t]
            exact ih _ _ _ _ h4 e T4 P4 (by omega) (by omega) (by omega)
          | false =>
            simp only at e
            rw [cd_f]
            refine take_ok (by omega) P4 fun h5 P5 f5 => ?_
            have T5 := T4.keep f5
            have r5 : r < h5.next := Nat.lt_of_lt_of_le T5.rS T5.f.1
            have e5 : (hasP [60, 47] p3.1 && !p3.2) = tkB [60, 47] p3 := rfl
            rw [e5]
            have P5 : Prs h5 r (tkP [60, 47] p3).1 (tkP [60, 47] p3).2 d := P5
            have l5 := tkP_le [60, 47] p3
            cases hb5 : tkB [60, 47] p3 with
            | true =>
              rw [if_pos hb5] at e
              cases e
              rw [cd_t]
              have l6 := wtP_le nm (tkP [60, 47] p3)
              refine want_ok (by omega) P5 fun h6 P6 f6 => ?_
              have T6 := T5.keep f6
              have P6 : Prs h6 r (wtP nm (tkP [60, 47] p3)).1 (wtP nm (tkP [60, 47] p3)).2 dq := P6
              refine blanks_ok (by omega) P6 (Nat.lt_of_lt_of_le T6.rS T6.f.1) (by omega) fun h7 P7 f7 => ?_
              have T7 := T6.keep f7
              have P7 : Prs h7 r (blP (wtP nm (tkP [60, 47] p3))).1 (blP (wtP nm (tkP [60, 47] p3))).2 dq := P7
              refine want_ok (by omega) P7 fun h8 P8 f8 => ?_
              have T8 := T7.keep f8
              exact T8.fin (p := wtP [62] (blP (wtP nm (tkP [60, 47] p3)))) P8 k
            | false =>
              rw [if_neg (by rw [hb5]; decide)] at e
              rw [cd_f]
              have htk : tkP [60, 47] p3 = p3 := by
                unfold tkP
                rw [if_neg]
                rintro ⟨x1, x2⟩
                simp only [tkB, x1, x2] at hb5
                cases hb5
              rw [htk] at P5
              refine want_ok (by omega) P5 fun h6 P6 f6 => ?_
              have T6 := T5.keep f6
              have r6 : r < h6.next := Nat.lt_of_lt_of_le T6.rS T6.f.1
              have P6 : Prs h6 r (wtP [60] p3).1 (wtP [60] p3).2 d := P6
              have l6 := wtP_le [60] p3
              obtain ⟨kv6, es6, c61, c62, c63, c64⟩ := T6.k
              rw [l1_a c61 rfl, ad_64 hdp]
              cases hrec : rc (wtP [60] p3) d with
              | none => rw [hrec] at e; cases e
              | some v =>
                obtain ⟨t, p5, d5⟩ := v
                rw [hrec] at e
                simp only at e
                have l7 := hrl hrec
                refine hrc _ _ _ _ _ h6 _ hrec P6 (low T6.f) r6 (by omega) fun h7 e7 P7 f7 t7 => ?_
                have T7 := T6.keep f7
                have ntv : some tv ≠ some r := fun e => by cases e; have := T.tv0; have := T.rS; omega
                have c71 := f7.get T6.tv1 ntv c61
                have c72 : VecE h7 kv6 63 3 encT es6 := c62.keep (fun q hq => (c63 q hq).2.1) f7 (.inl fun e => by have := (c63 r e).1; have := T.rS; omega)
                have c74 : TrsA h7 (fun q => hS.next ≤ q ∧ q ≠ tv ∧ q ≠ rv ∧ vblk kv6 ≠ some q) ks es6 := c64.keep ⟨f7.1, fun q hq hN => f7.2.1 q hq fun e => by cases e; have := hN.1; have := T.rS; omega⟩ fun q _ h => h
                have t72 : TrA h7 (fun q => hS.next ≤ q ∧ q ≠ tv ∧ q ≠ rv ∧ vblk kv6 ≠ some q) t e7 := t7.keep ⟨Nat.le_refl _, fun q _ _ => rfl⟩ fun q _ h0 => by
                  have a1 := T6.f.1
                  have a2 := T6.tv1
                  have a3 := T6.rv1
                  refine ⟨by omega, by omega, by omega, fun e => ?_⟩
                  have := (c63 q e).2.1
                  omega
                have hkl : es6.length = ks.length := c64.len
                have one7 : (encT e7).all oneV = true := by
                  cases t with
                  | node nn tt kk =>
                    obtain ⟨_, _, es', v7, _⟩ := t7
                    have : oneV e7.2.2 = true := by
                      obtain ⟨_, ⟨h1, _⟩ | ⟨_, _, _, _, h1, _⟩⟩ := v7 <;> rw [h1] <;> rfl
                    show (true && (true && (oneV e7.2.2 && true))) = true
                    rw [this]; rfl
                refine bs_a (cs := encT e7) (l := [(0 * 3, .a (encT e7))]) tt61 rfl tt63 (by decide) rfl rfl fun q8 h8 hg8 f8 hq8 hq8' => ?_
                have f8' : But h7 h8 (some r) := f8.none _
                have c82 : VecE h8 kv6 63 3 encT es6 := c72.keep (fun q hq => Nat.lt_of_lt_of_le (c63 q hq).2.1 f7.1) f8 (.inr rfl)
                refine ap_vec (cs := encT e7) (m := 1) tt61 rfl tt63 tt61 (by intro k e; cases e) rfl ?_ c82 rfl one7 (by unfold most; simp only; omega) (by unfold most; omega) fun v9 h9 hv9 f9 hq9 => ?_
                · simp only [fcells, hg8]
                  rfl
                have hv9 : VecE h9 v9 63 3 encT (es6 ++ [e7]) := by
                  unfold VecE
                  rw [encs_app, encs_one, List.length_append]
                  exact hv9
                have k6tv : vblk kv6 ≠ some tv := fun e => (c63 tv e).2.2.1 rfl
                have k6rv : vblk kv6 ≠ some rv := fun e => (c63 rv e).2.2.2 rfl
                have tv7 := T7.tv1
                have rv7 := T7.rv1
                have n78 := f8.1
                have n89 := f9.1
                have g9 := f9.get (Nat.lt_of_lt_of_le tv7 n78) (fun e => k6tv e.symm) (f8.get tv7 (by simp) c71)
                have one9 : oneV v9 = true := by
                  obtain ⟨_, ⟨h1, _⟩ | ⟨_, _, _, _, h1, _⟩⟩ := hv9 <;> rw [h1] <;> rfl
                refine s1_a (o := 2) g9 (by simp) one9 fun h10 hg10 f10 => ?_
                have n910 := f10.1
                have g8 := f8.get tv7 (by simp) c71
                refine ck_1 p32 (againW_l tt61 rfl rfl T6.tv1 c61 rfl) (fun pr hpr => ?_) ?_
                · simp only [List.mem_cons, List.not_mem_nil, or_false] at hpr
                  rcases hpr with rfl | rfl
                  · exact againW_l tt61 rfl rfl (by simp only; omega) g9 rfl
                  · exact againW_l tt61 rfl rfl tv7 c71 rfl
                have v9q : ∀ q, vblk v9 = some q → hS.next ≤ q ∧ q < h9.next ∧ q ≠ tv ∧ q ≠ rv := by
                  intro q hq
                  rcases hq9 with e9 | ⟨e9, e9'⟩
                  · rw [e9] at hq
                    have hc := c63 q hq
                    have := f7.1
                    exact ⟨hc.1, by omega, hc.2.2⟩
                  · rw [e9] at hq
                    cases hq
                    have := T7.f.1
                    exact ⟨by omega, e9', by omega, by omega⟩
                obtain ⟨csr, cr1, cr2⟩ := T7.rb
                have cr3 := f10.get (by omega) (fun e => T.ne (Option.some.inj e).symm) (f9.get (Nat.lt_of_lt_of_le rv7 n78) (fun e => k6rv e.symm) (f8.get rv7 (by simp) cr1))
                have fk6 : ∀ z, vblk kv6 = some z → hS.next ≤ z := fun z hz => (c63 z hz).1
                have f19 : But hS h9 (some r) := (T7.f.trans f8').over f9 (.inr fk6)
                have f1A : But hS h10 (some r) := f19.over f10 (.inr fun z e => by cases e; exact T.tv0)
                have TA : Trl hS h10 r tv rv (plainS nm) (tx ++ outT a) (ks ++ [t]) := by
                  refine ⟨f1A, T.rS, T.tv0, T.rv0, by omega, by omega, T.ne, ⟨csr, cr3, cr2⟩, v9, es6 ++ [e7], hg10, hv9.keep (fun q hq => (v9q q hq).2.1) f10 (.inl fun e => (v9q tv e).2.2.1 rfl), fun q hq => ?_, (c74.app t72).keep ⟨by omega, fun q hq hN => ?_⟩ fun q hq hN => ⟨hN.1, hN.2.1, hN.2.2.1, fun e => ?_⟩⟩
                  · have := v9q q hq
                    exact ⟨this.1, by omega, this.2.2⟩
                  · rw [f10.2.1 q (by omega) (fun e => hN.2.1 (Option.some.inj e)), f9.2.1 q (by omega) (fun e => hN.2.2.2 e.symm), f8.2.1 q hq (by simp)]
                  · rcases hq9 with e9 | ⟨e9, e9'⟩
                    · rw [e9] at e
                      exact hN.2.2.2 e
                    · rw [e9] at e
                      cases e
                      omega
                have PA : Prs h10 r p5.1 p5.2 d5 := by
                  have r7 : r < h7.next := Nat.lt_of_lt_of_le T7.rS T7.f.1
                  have P8 := P7.keep f8 r7 (by simp)
                  have P9 := P8.keep f9 (by omega) (fun e => by have := (c63 r e).1; have := T.rS; omega)
                  exact P9.keep f10 (by omega) (fun e => by cases e; have := T.tv0; have := T.rS; omega)
                exact ih _ _ _ _ h10 e TA PA (by omega) (by omega) (by rw [List.length_append, List.length_singleton]; omega)
      · -- no < any more
        rw [ec] at e
        cases e
        simp only [ex_t, List.getElem?_cons_zero, List.getElem?_cons_succ, oP_some, nt_b, Bool.not_false, cd_t, nl_p, fa_p, Nat.zero_add]
        refine s1_a hg (by simp) rfl fun h1 hg1 f1 => ?_
        unfold F41_26
        exact (T.keep f1).fin (p := (p.1, true)) ⟨ty, hg1⟩ k

/-- A tree, read. -/
theorem tree_ok : ∀ (k : Nat) {n : Nat}, 13 + k ≤ n → ∀ (dp : Int), 0 ≤ dp → dp + k ≤ 1000000 → ∀ (r : Nat) (p : PS) (d : Int) (t : XT) (p' : PS) (d' : Int) (h : H) (K : V → H → Prop), 16 ≤ r → treeP k dp p d = some (t, p', d') → Prs h r p.1 p.2 d → Low h → r < h.next → p.1.length < 50000 →
    (∀ h' e, Prs h' r p'.1 p'.2 d' → But h h' (some r) → TrA h' (fun q => h.next ≤ q) t e → K (.a (encT e)) h') → Ok Tryz.prog n 41 [.p r 0, .i .i64 dp] h K
  | 0, n, _, _, _, _, _, _, _, _, _, _, _, _, _, e, _, _, _, _, _ => by cases e
  | k + 1, n, hn, dp, hd0, hd1, r, p, d, t, p', d', h, K, hr16, e, P, L, hr, hl, hk => by
    obtain ⟨n, rfl⟩ := Nat.exists_eq_add_of_le' (show 1 ≤ n by omega)
    refine Ok.bd (K41 fun hbd => ?_)
    unfold F41
    refine al_a tt63 fun rv h1 g1 f1 v1 v2 => ?_
    have P1 := P.keep f1 hr (by simp)
    obtain ⟨ty, hg1⟩ := P1
    simp only [nl_p, fa_p, Nat.zero_add]
    rw [l1_a hg1 rfl, mm_i]
    refine s1_a hg1 (by simp) rfl fun h2 hg2 f2 => ?_
    have P2 : Prs h2 r p.1 p.2 (max d dp) := ⟨ty, hg2⟩
    have f12 : But h h2 (some r) := (f1.none _).trans f2
    have low : ∀ {h' : H}, But h h' (some r) → Low h' := fun f => L.keep f (fun q e => by cases e; exact hr16)
    have r2 : r < h2.next := Nat.lt_of_lt_of_le hr f12.1
    rw [cf_k]
    have lo := openP_le p
    refine open_ok (by omega) P2 r2 hr16 (low f12) hl fun h3 P3 f3 => ?_
    simp only [ex_t, List.getElem?_cons_zero, List.getElem?_cons_succ, oP_some, cf_k]
    have hnm : (nameS p.1).length ≤ p.1.length := by unfold nameS; rw [List.length_take]; omega
    refine plain_ok (by omega) (by omega) ?_
    refine bl_a (v := .a [.s (plainS (nameS p.1)), .s [], .ns]) ?_ ?_
    · unfold blW
      rw [ti_some _ tt63]
      rfl
    refine al_a tt63 fun tv h4 g4 f4 t1 t2 => ?_
    refine sn_w g4 (cs := [.s (plainS (nameS p.1)), .s [], .ns]) rfl rfl rfl rfl fun h5 g5 f5 => ?_
    have f23 : But h2 h3 (some r) := f3
    have f13 := f12.trans f3
    have f14 := f13.trans (f4.none _)
    have f15 : But h h5 (some r) := f14.over f5 (.inr fun z e => by cases e; exact Nat.le_trans f13.1 t1)
    have rvr : some rv ≠ some r := fun e => by cases e; omega
    have gv2 := f2.get v2 rvr g1
    have gv3 := f3.get (Nat.lt_of_lt_of_le v2 f2.1) rvr gv2
    have rv3 : rv < h3.next := Nat.lt_of_lt_of_le v2 (Nat.le_trans f2.1 f3.1)
    have gv4 := f4.get rv3 (by simp) gv3
    have rvt : rv ≠ tv := by omega
    have gv5 := f5.get (Nat.lt_of_lt_of_le rv3 f4.1) (fun e => rvt (Option.some.inj e)) gv4
    have T : Trl h h5 r tv rv (plainS (nameS p.1)) [] [] := ⟨f15, hr, Nat.le_trans f13.1 t1, v1, Nat.lt_of_lt_of_le t2 f5.1, Nat.lt_of_lt_of_le rv3 (Nat.le_trans f4.1 f5.1), fun e => rvt e.symm, ⟨_, gv5, rfl⟩, .ns, [], g5, ⟨rfl, .inl ⟨rfl, rfl⟩⟩, (fun q hq => by cases hq), rfl⟩
    have P5 : Prs h5 r (openP p).2.1 (openP p).2.2 (max d dp) := (P3.keep f4 (Nat.lt_of_lt_of_le r2 f3.1) (by simp)).keep f5 (Nat.lt_of_lt_of_le r2 (Nat.le_trans f3.1 f4.1)) (fun e => by
      cases e
      have := Nat.lt_of_lt_of_le r2 f3.1
      omega)
    rw [treeP] at e
    cases ha : (openP p).1 with
    | true =>
      rw [if_pos ha] at e
      cases e
      rw [show (100000 : Nat) = 99999 + 1 from rfl, S41_32]
      simp only [nt_b, Bool.not_true, g1_f, pk_f, cd_f]
      unfold F41_26
      exact T.fin P5 hk
    | false =>
      rw [if_neg (by rw [ha]; decide)] at e
      cases hT : treeL (fun q e => treeP k (dp + 1) q e) (nameS p.1) 100000 [] [] (openP p).2 (max d dp) with
      | none => rw [hT] at e; cases e
      | some v =>
        obtain ⟨⟨tx, ks⟩, p2, d2⟩ := v
        rw [hT] at e
        cases e
        refine trl_ok (by omega) hr16 L (by omega) (fun h => treeP_le k h) (fun p d t p' d' h K e P L hr hl hk => tree_ok k (by omega) (dp + 1) (by omega) (by omega) r p d t p' d' h K hr16 e P L hr hl hk) hk 100000 [] [] _ _ h5 hT T P5 (by omega) (by simp; omega) (by simp)
end Go.Proofs.YtbkhielalbbopaaGreatDoor.Wb
