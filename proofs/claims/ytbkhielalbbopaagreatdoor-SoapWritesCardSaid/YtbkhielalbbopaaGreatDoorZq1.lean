/- The parser: up to two bytes whose first one stands nowhere ahead of them; a remark. -/
import Derived.Test.YtbkhielalbbopaaGreatDoorZp9
set_option linter.unusedSimpArgs false
set_option linter.unusedVariables false
set_option linter.unusedSectionVars false
set_option linter.unnecessarySimpa false
set_option maxRecDepth 100000
namespace Go.Proofs.YtbkhielalbbopaaGreatDoor.Wb
open Go Go.Am Go.Am.Xm

theorem index_at {x y : UInt8} {b : Bs} : ∀ {a : Bs}, x ∉ a → Lib.index (a ++ x :: y :: b) [x, y] = a.length
  | [], _ => by simp [Lib.index, List.isPrefixOf]
  | c :: a, h => by
    have ih := index_at (x := x) (y := y) (b := b) (a := a) fun hm => h (List.mem_cons_of_mem c hm)
    have : ([x, y] : Bs).isPrefixOf (c :: (a ++ x :: y :: b)) = false := by
      simp only [List.isPrefixOf]
      have : (x == c) = false := by
        simp
        intro e
        exact h (e ▸ List.mem_cons_self ..)
      rw [this]; rfl
    simp only [List.cons_append, Lib.index, this, ih]
    rw [if_neg (by decide), if_neg (by rw [beq_iff_eq]; omega)]
    simp

theorem idx2_ok {n : Nat} (hn : 3 ≤ n) {a b : Bs} {x y : UInt8} {h : H} {K : V → H → Prop} (L : Low h) (ha : x ∉ a) (hl : (a ++ x :: y :: b).length < 100000) (k : K (.i .i64 a.length) h) : Ok Tryz.prog n 137 [.s (a ++ x :: y :: b), .s [x, y]] h K := by
  obtain ⟨n, rfl⟩ := Nat.exists_eq_add_of_le' hn
  refine Ok.bd (K137 fun hbd => ?_)
  unfold F137
  generalize hL : a ++ x :: y :: b = l at hl ⊢
  have hlen : l.length = a.length + b.length + 2 := by rw [← hL]; simp; omega
  have d1 : decide (((([x, y] : Bs).length : Nat) : Int) = 0) = false := rfl
  have d2 : decide (((([x, y] : Bs).length : Nat) : Int) = 1) = false := rfl
  rw [lg_s tt9 rfl]
  simp only [eq_i, d1, g0_f, eq_s, pk_f]
  cases he : (([x, y] : Bs) == l) with
  | true =>
    have := eq_of_beq he
    have h0 : a.length = 0 := by
      have h3 : ([x, y] : Bs).length = l.length := congrArg List.length this
      rw [hlen] at h3
      have : ([x, y] : Bs).length = 2 := rfl
      omega
    rw [cd_t]
    rw [h0] at k
    exact fun _ => k
  | false =>
    rw [cd_f, d2, cd_f, lg_s tt9 rfl, ge_i]
    have hab : 0 < a.length + b.length := by
      rcases Nat.eq_zero_or_pos (a.length + b.length) with h0 | h0
      · have e1 : a = [] := List.eq_nil_of_length_eq_zero (by omega)
        have e2 : b = [] := List.eq_nil_of_length_eq_zero (by omega)
        rw [e1, e2] at hL
        rw [← hL] at he
        simp at he
      · exact h0
    have hp : (([x, y] : Bs).length : Int) = 2 := rfl
    rw [hp, decide_eq_false (by omega), cd_f]
    obtain ⟨m, ty, w, hg⟩ := L.ml
    rw [l1_a hg rfl, le_i]
    have long : F137_7 pw (mkX Tryz.prog) (Ok Tryz.prog (n + 2)) (fun v h => Bd h → K v h) (.s l) (.s [x, y]) (.i .i64 2) h := by
      unfold F137_7
      have i0 : ∀ κ : V → Prop, pw.ix (mkX Tryz.prog) 9 (.s [x, y]) (.i .i64 0) κ = κ (.i .u8 x.toNat) := fun κ => ix_s tt9 rfl (n := 0) rfl
      have i1 : ∀ κ : V → Prop, pw.ix (mkX Tryz.prog) 9 (.s [x, y]) (.i .i64 1) κ = κ (.i .u8 y.toNat) := fun κ => ix_s tt9 rfl (n := 1) rfl
      rw [i0, i1, lg_s tt9 rfl]
      have w1 : IntKind.i64.wrap ((l.length : Int) - 2) = ((l.length - 2 : Nat) : Int) := by rw [wrap64_in (by omega)]; omega
      have w2 : IntKind.i64.wrap (((l.length - 2 : Nat) : Int) + 1) = ((l.length - 1 : Nat) : Int) := by rw [wrap64_in (by omega)]; omega
      simp only [sb_i, w1, ad_i, w2]
      rw [show (100000 : Nat) = 99999 + 1 from rfl, S137_27]
      have d5 : decide ((0 : Int) < ((l.length - 1 : Nat) : Int)) = true := decide_eq_true (by omega)
      simp only [lt_i, d5, cd_t]
      have gx : l[a.length]? = some x := by rw [← hL, List.getElem?_append_right (Nat.le_refl _), Nat.sub_self]; rfl
      have gy : l[a.length + 1]? = some y := by rw [← hL, List.getElem?_append_right (by omega), Nat.add_sub_cancel_left]; rfl
      have at_ : F137_45 pw (mkX Tryz.prog) (Ok Tryz.prog (n + 2)) (fun v h => Bd h → K v h) (F137_27 pw (mkX Tryz.prog) (Ok Tryz.prog (n + 2)) (fun v h => Bd h → K v h) 99999) (.s l) (.s [x, y]) (.i .i64 2) (.i .u8 x.toNat) (.i .u8 y.toNat) (.i .i64 a.length) (.i .i64 (l.length - 1 : Nat)) (.i .i64 0) h := by
        unfold F137_45
        rw [ad_64 (by omega), show (a.length : Int) + 1 = ((a.length + 1 : Nat) : Int) by omega, ix_s tt9 rfl gy, eq_i, decide_eq_true rfl]
        simp only [g1_t]
        rw [ad_64 (by omega), show (a.length : Int) + 2 = ((a.length + 2 : Nat) : Int) by omega, sc_s2 tt9 rfl (by omega) (by omega), eq_s]
        have : (l.drop a.length).take (a.length + 2 - a.length) = [x, y] := by
          rw [← hL, List.drop_left, Nat.add_sub_cancel_left]
          rfl
        rw [this]
        simp only [beq_self_eq_true, pk_t, cd_t]
        exact fun _ => k
      unfold F137_36
      obtain ⟨c, l', hl'⟩ : ∃ c l', l = c :: l' := by
        cases hcl : l with
        | nil => rw [hcl, List.length_nil] at hlen; omega
        | cons c l' => exact ⟨c, l', rfl⟩
      have j0 : ∀ κ : V → Prop, pw.ix (mkX Tryz.prog) 9 (.s l) (.i .i64 0) κ = κ (.i .u8 c.toNat) := fun κ => ix_s tt9 rfl (n := 0) (by rw [hl']; rfl)
      rw [j0, ne_i]
      cases ha0 : a with
      | nil =>
        rw [ha0] at hL at_
        have hcx : c = x := by
          rw [hl'] at hL
          simp at hL
          exact hL.1.symm
        rw [hcx, decide_eq_true rfl, Bool.not_true, cd_f]
        exact at_
      | cons z a' =>
        have hcz : c = z := by
          rw [hl', ha0] at hL
          simp at hL
          exact hL.1.symm
        have hca : c ≠ x := fun e => ha (by rw [ha0, ← hcz, e]; exact List.mem_cons_self ..)
        have d6 : decide ((c.toNat : Int) = (x.toNat : Int)) = false := decide_eq_false fun e => hca (UInt8.toNat_inj.1 (by omega))
        have w3 : IntKind.i64.wrap ((0 : Int) + 1) = ((1 : Nat) : Int) := rfl
        simp only [d6, Bool.not_false, cd_t, ad_i, w3]
        rw [sc_s2 tt9 rfl (by omega) (by omega)]
        simp only [cf_k]
        refine K159 fun hbd2 => ?_
        unfold F159
        simp only [cf_k]
        refine ib_ok ?_
        have hcut : cut1 x ((l.drop 1).take (l.length - 1 - 1)) = some (a', (y :: b).take (l.length - 1 - 1 - a'.length - 1)) := by
          have hla : a.length = a'.length + 1 := by rw [ha0]; rfl
          have : (l.drop 1).take (l.length - 1 - 1) = a' ++ x :: (y :: b).take (l.length - 1 - 1 - a'.length - 1) := by
            rw [← hL, ha0]
            simp only [List.cons_append, List.drop_succ_cons, List.drop_zero, List.length_cons, List.length_append]
            rw [List.take_append, List.take_of_length_le (by omega)]
            congr 1
            obtain ⟨q, hq⟩ : ∃ q, (a'.length + (b.length + 1 + 1) + 1 - 1 - 1 - a'.length) = q + 1 := ⟨_, (Nat.succ_pred_eq_of_pos (by omega)).symm⟩
            rw [hq, List.take_succ_cons]
            rfl
          rw [this]
          exact cut1_mk fun hm => ha (by rw [ha0]; exact List.mem_cons_of_mem _ hm)
        rw [indexByte_cut, hcut]
        simp only [lt_i]
        rw [decide_eq_false (show ¬ ((a'.length : Nat) : Int) < 0 by omega), cd_f]
        unfold F137_174
        have hla : a.length = a'.length + 1 := by rw [ha0]; rfl
        rw [ad_64 (by omega), ad_64 (by omega), show (0 : Int) + ((a'.length : Nat) + 1) = (a.length : Int) by omega]
        exact at_
    by_cases hm : (2 : Int) ≤ m
    · rw [decide_eq_true hm]
      simp only [g1_t]
      rw [lg_s tt9 rfl, le_i]
      by_cases h64 : (l.length : Int) ≤ 64
      · rw [decide_eq_true h64, pk_t, cd_t]
        simp only [cf_k]
        refine is_ok hg (by simp) (by omega) (by rw [hp]; exact hm) ?_
        rw [← hL, index_at ha]
        exact fun _ => k
      · rw [decide_eq_false h64, pk_t, cd_f]
        exact long
    · rw [decide_eq_false hm]
      simp only [g1_f, pk_f, cd_f]
      exact long

theorem cut2_ok {n : Nat} (hn : 5 ≤ n) {a b : Bs} {x y : UInt8} {h : H} {K : V → H → Prop} (L : Low h) (ha : x ∉ a) (hl : (a ++ x :: y :: b).length < 100000) (k : K (.t [.s a, .s b, .b true]) h) : Ok Tryz.prog n 80 [.s (a ++ x :: y :: b), .s [x, y]] h K := by
  obtain ⟨n, rfl⟩ := Nat.exists_eq_add_of_le' hn
  refine Ok.bd (K80 fun hbd => ?_)
  unfold F80
  simp (disch := omega) only [ws]
  refine K110 fun hbd => ?_
  unfold F110
  simp (disch := omega) only [ws]
  refine idx2_ok (by omega) L ha hl ?_
  have d0 : decide ((0 : Int) ≤ (a.length : Int)) = true := by simp
  have hlen : (a ++ x :: y :: b).length = a.length + b.length + 2 := by simp; omega
  simp (disch := omega) only [ws, d0]
  rw [sc_s0 tt9 rfl (by omega)]
  simp (disch := omega) only [ws, lg_s tt9 rfl, List.length_cons, List.length_nil]
  rw [show ((a.length : Int) + ((0 + 1 + 1 : Nat) : Int)) = ((a.length + 2 : Nat) : Int) by omega, sc_s1 tt9 rfl (by omega)]
  simp (disch := omega) only [ws, List.getElem?_cons_zero, List.getElem?_cons_succ]
  intro _
  have t1 : (a ++ x :: y :: b).take a.length = a := by simp
  have t2 : (a ++ x :: y :: b).drop (a.length + 2) = b := by
    have : a ++ x :: y :: b = (a ++ [x, y]) ++ b := by simp
    rw [this]
    exact List.drop_left' (by simp)
  rw [t1, t2]
  exact k

/-- Up to two bytes that must come. -/
theorem to2_ok {n : Nat} (hn : 6 ≤ n) {r : Nat} {a b : Bs} {x y : UInt8} {d : Int} {h : H} {K : V → H → Prop} (L : Low h) (P : Prs h r (a ++ x :: y :: b) false d) (ha : x ∉ a) (hl : (a ++ x :: y :: b).length < 100000)
    (k : ∀ h', Prs h' r b false d → But h h' (some r) → K (.s a) h') : Ok Tryz.prog n 77 [.p r 0, .s [x, y]] h K := by
  obtain ⟨n, rfl⟩ := Nat.exists_eq_add_of_le' hn
  obtain ⟨ty, P⟩ := P
  refine Ok.bd (K77 fun hbd => ?_)
  unfold F77
  simp only [nl_p, fa_p, Nat.zero_add]
  rw [l1_a P rfl, cf_k]
  refine cut2_ok (by omega) L ha hl ?_
  simp only [ex_t, List.getElem?_cons_zero, List.getElem?_cons_succ, oP_some, nt_b, Bool.not_true, g0_f, nl_p, fa_p, Nat.zero_add]
  rw [l1_a P rfl]
  simp only [pk_f, cd_f, F77_17, nl_p, fa_p, Nat.zero_add]
  refine s1_a P (by simp) rfl fun h1 hg f => ?_
  exact fun _ => k h1 ⟨ty, hg⟩ f

/-- No remark stands here. -/
theorem rem0_ok {n : Nat} (hn : 5 ≤ n) {r : Nat} {p : PS} {d : Int} {h : H} {K : V → H → Prop} (P : Prs h r p.1 p.2 d) (e : tkB [60, 33, 45, 45] p = false)
    (k : ∀ h', Prs h' r p.1 p.2 d → But h h' (some r) → K (.b false) h') : Ok Tryz.prog n 43 [.p r 0] h K := by
  obtain ⟨n, rfl⟩ := Nat.exists_eq_add_of_le' hn
  refine Ok.bd (K43 fun hbd => ?_)
  unfold F43
  simp only [cf_k, c43]
  refine take_ok (by omega) P fun h1 P1 f1 => ?_
  have e1 : (hasP [60, 33, 45, 45] p.1 && !p.2) = false := e
  rw [e1, nt_b, Bool.not_false, cd_t]
  have : ¬ (hasP [60, 33, 45, 45] p.1 = true ∧ p.2 = false) := by
    rintro ⟨h1, h2⟩
    rw [h1, h2] at e1
    cases e1
  rw [if_neg this] at P1
  exact fun _ => k h1 P1 f1
/-- A remark. -/
theorem rem1_ok {n : Nat} (hn : 7 ≤ n) {r : Nat} {a b : Bs} {d : Int} {h : H} {K : V → H → Prop} (L : Low h) (hr : 16 ≤ r) (P : Prs h r ([60, 33, 45, 45] ++ (a ++ [45, 45] ++ ([62] ++ b))) false d) (ha : (45 : UInt8) ∉ a) (hl : a.length + b.length < 50000)
    (k : ∀ h', Prs h' r b false d → But h h' (some r) → K (.b true) h') : Ok Tryz.prog n 43 [.p r 0] h K := by
  obtain ⟨n, rfl⟩ := Nat.exists_eq_add_of_le' hn
  refine Ok.bd (K43 fun hbd => ?_)
  unfold F43
  simp only [cf_k, c43]
  refine take_ok (by omega) P fun h1 P1 f1 => ?_
  have e1 : hasP [60, 33, 45, 45] ([60, 33, 45, 45] ++ (a ++ [45, 45] ++ ([62] ++ b))) = true := by simp [hasP]
  rw [e1] at P1 ⊢
  simp only [Bool.not_false, Bool.and_self, nt_b, Bool.not_true, cd_f, and_self, if_true] at P1 ⊢
  unfold F43_3
  simp only [cf_k, c43]
  have e2 : List.drop ([60, 33, 45, 45] : Bs).length ([60, 33, 45, 45] ++ (a ++ [45, 45] ++ ([62] ++ b))) = a ++ 45 :: 45 :: (62 :: b) := by simp
  rw [e2] at P1
  refine to2_ok (by omega) (L.keep f1 (fun q e => by cases e; exact hr)) P1 ha (by simp; omega) fun h2 P2 f2 => ?_
  refine want_ok (by omega) P2 fun h3 P3 f3 => ?_
  have e3 : hasP [62] (62 :: b) = true := by simp [hasP]
  rw [e3] at P3
  simp only [and_self, if_true, Bool.not_true, Bool.or_false] at P3
  exact fun _ => k h3 P3 (f1.trans (f2.trans f3))
end Go.Proofs.YtbkhielalbbopaaGreatDoor.Wb
