/- Index, Cut, to, remark: of two bytes, wherever they stand. -/
import Derived.Test.YtbkhielalbbopaaGreatDoorWs
import Derived.Test.YtbkhielalbbopaaGreatDoorZs8
set_option linter.unusedSimpArgs false
set_option linter.unusedVariables false
set_option linter.unusedSectionVars false
set_option linter.unnecessarySimpa false
set_option maxRecDepth 100000
namespace Go.Proofs.YtbkhielalbbopaaGreatDoor.Wb
open Go Go.Am Go.Am.Xm
theorem sh_ge {a : Nat} {r : Int} (h : -1 ≤ r) : -1 ≤ sh a r := by
 by_cases e : r = -1
 ·rw [e, sh_m]; decide
 ·rw [sh_n (by omega)]; omega
set_option maxHeartbeats 4000000 in
theorem xl_ok {n : Nat} (hn : 2 ≤ n) {l : Bs} {x y : UInt8} {h : H} {K : V → H → Prop} (L : Low h) (hl : l.length < 100000) (h3 : 2 ≤ l.length) :
  ∀ (m i f : Nat), l.length - i < m → i ≤ l.length - 1 → f ≤ i → K (.i .i64 (sh i (ix2 x y (l.drop i)))) h →
   F137_27 pw (mkX Tryz.prog) (Ok Tryz.prog n) (fun v h => Bd h → K v h) m (.s l) (.s [x, y]) (.i .i64 2) (.i .u8 x.toNat) (.i .u8 y.toNat) (.i .i64 i) (.i .i64 (l.length - 1 : Nat)) (.i .i64 f) h := by
 intro m
 induction m with
 | zero => intro i f hm; omega
 | succ m ih =>
  intro i f hm hi hf k
  rw [S137_27, lt_i]
  obtain ⟨mx, ty, w, hg⟩ := L.ml
  by_cases hlt : i < l.length - 1
  ·rw [decide_eq_true (show (i : Int) < ((l.length - 1 : Nat) : Int) by omega), cd_t]
   have at_ : ∀ q, i ≤ q → q < l.length - 1 → l[q]? = some x → K (.i .i64 (sh q (ix2 x y (l.drop q)))) h →
     F137_45 pw (mkX Tryz.prog) (Ok Tryz.prog n) (fun v h => Bd h → K v h) (F137_27 pw (mkX Tryz.prog) (Ok Tryz.prog n) (fun v h => Bd h → K v h) m) (.s l) (.s [x, y]) (.i .i64 2) (.i .u8 x.toNat) (.i .u8 y.toNat) (.i .i64 q) (.i .i64 (l.length - 1 : Nat)) (.i .i64 f) h := by
    intro q h1 h2 hx k
    unfold F137_45
    have hq1 : q + 1 < l.length := by omega
    have hs1 := List.getElem?_eq_getElem hq1
    generalize l[q + 1] = z at hs1
    rw [ad_64 (by omega), show (q : Int) + 1 = ((q + 1 : Nat) : Int) by omega, ix_s tt9 rfl hs1, eq_i]
    by_cases hz : z = y
    ·subst hz
     rw [decide_eq_true rfl]
     simp only [g1_t]
     rw [ad_64 (by omega), show (q : Int) + 2 = ((q + 2 : Nat) : Int) by omega, sc_s2 tt9 rfl (by omega) (by omega), eq_s]
     have : (l.drop q).take (q + 2 - q) = [x, z] := by
      rw [drop_at hx, drop_at hs1, Nat.add_sub_cancel_left]; rfl
     rw [this]
     simp only [beq_self_eq_true, pk_t, cd_t]
     rw [ix2_at hx hs1, sh_n (Int.le_refl 0), Int.zero_add] at k
     exact fun _ => k
    ·rw [decide_eq_false (fun e => hz (UInt8.toNat_inj.1 (by omega)))]
     simp only [g1_f, pk_f, cd_f]
     rw [ix2_step (by omega) (fun e => hz (by rw [hs1] at e; exact Option.some.inj e.2)), sh_sh (ix2_ge _ _ _)] at k
     have hd := ix2_ge x y (l.drop (q + 1))
     unfold F137_54
     rw [ad_64 (by omega), show (q : Int) + 1 = ((q + 1 : Nat) : Int) by omega, ad_64 (by omega), show (f : Int) + 1 = ((f + 1 : Nat) : Int) by omega, l1_a hg rfl, le_i]
     have next : F137_27 pw (mkX Tryz.prog) (Ok Tryz.prog n) (fun v h => Bd h → K v h) m (.s l) (.s [x, y]) (.i .i64 2) (.i .u8 x.toNat) (.i .u8 y.toNat) (.i .i64 (q + 1 : Nat)) (.i .i64 (l.length - 1 : Nat)) (.i .i64 (f + 1 : Nat)) h := ih (q + 1) (f + 1) (by omega) (by omega) (by omega) k
     by_cases hm2 : (2 : Int) ≤ mx
     ·rw [decide_eq_true hm2]
      simp only [g1_t, cf_k]
      refine cut_over (by omega) (z := q + 1) (by omega) ?_
      rw [gt_i]
      by_cases hc : (((q + 1 + 16) / 8 : Nat) : Int) < ((f + 1 : Nat) : Int)
      ·rw [decide_eq_true hc]
       simp only [pk_t, cd_t]
       rw [sc_d' (by omega)]
       try simp only [cf_k]
       obtain ⟨n, rfl⟩ := Nat.exists_eq_add_of_le' (show 1 ≤ n by omega)
       refine is_ok hg (by simp) (by rw [List.length_drop]; omega) (by simpa using hm2) ?_
       rw [index_ix2, ge_i]
       by_cases hr : ix2 x y (l.drop (q + 1)) = -1
       ·rw [hr, sh_m] at k
        rw [hr, decide_eq_false (by decide), cd_f]
        exact fun _ => k
       ·rw [sh_n (by omega)] at k
        have hle := ix2_le x y (l.drop (q + 1))
        rw [List.length_drop] at hle
        rw [decide_eq_true (show (0 : Int) ≤ ix2 x y (l.drop (q + 1)) by omega), cd_t, ad_64 (by omega)]
        exact fun _ => k
      ·rw [decide_eq_false hc]
       simp only [pk_t, cd_f]
       rw [l1_a hg rfl, gt_i, decide_eq_false (show ¬ mx < (2 : Int) by omega)]
       simp only [g1_f, pk_f, cd_f]
       exact next
     ·rw [decide_eq_false hm2]
      simp only [g1_f, pk_f, cd_f]
      rw [l1_a hg rfl, gt_i, decide_eq_true (show mx < (2 : Int) by omega)]
      simp only [g1_t]
      rw [show (4 : Int) = ((4 : Nat) : Int) from rfl, sr_k 4 (by decide), show (((q + 1 : Nat) : Int) / 2 ^ 4) = (((q + 1) / 16 : Nat) : Int) by omega, ad_64 (by omega), ge_i]
      by_cases hc : ((4 : Nat) : Int) + (((q + 1) / 16 : Nat) : Int) ≤ ((f + 1 : Nat) : Int)
      ·rw [decide_eq_true hc]
       simp only [pk_t, g1_t, lt_i]
       by_cases hq2 : q + 1 < l.length - 1
       ·rw [decide_eq_true (show ((q + 1 : Nat) : Int) < ((l.length - 1 : Nat) : Int) by omega)]
        simp only [cd_t]
        rw [sc_d' (by omega)]
        try simp only [cf_k]
        refine rk_ok (by omega) (l := l.drop (q + 1)) (by rw [List.length_drop]; omega) (by rw [List.length_drop]; omega) ?_
        rw [lt_i]
        by_cases hr : ix2 x y (l.drop (q + 1)) = -1
        ·rw [hr, sh_m] at k
         rw [hr, decide_eq_true (by decide), cd_t]
         exact fun _ => k
        ·rw [sh_n (by omega)] at k
         have hle := ix2_le x y (l.drop (q + 1))
         rw [List.length_drop] at hle
         rw [decide_eq_false (show ¬ ix2 x y (l.drop (q + 1)) < 0 by omega), cd_f]
         unfold F137_125
         rw [ad_64 (by omega), Int.add_comm]
         exact fun _ => k
       ·rw [decide_eq_false (show ¬ ((q + 1 : Nat) : Int) < ((l.length - 1 : Nat) : Int) by omega)]
        simp only [cd_f]
        exact next
      ·rw [decide_eq_false hc]
       simp only [pk_t, g1_f, pk_f, cd_f]
       exact next
   unfold F137_36
   have hs := List.getElem?_eq_getElem (show i < l.length by omega)
   generalize l[i] = c at hs
   rw [ix_s tt9 rfl hs, ne_i]
   by_cases hc : c = x
   ·subst hc
    rw [decide_eq_true rfl, Bool.not_true, cd_f]
    exact at_ i (Nat.le_refl _) hlt hs k
   ·rw [decide_eq_false (fun e => hc (UInt8.toNat_inj.1 (by omega))), Bool.not_false, cd_t]
    have h0 : l[i]? ≠ some x := fun e => hc (by rw [hs] at e; exact Option.some.inj e)
    obtain ⟨c1, c2⟩ := ix2_cut (x := x) (y := y) (l := l) (i := i) (t := l.length - 1) (by omega) (by omega) h0
    rw [ad_64 (by omega), show (i : Int) + 1 = ((i + 1 : Nat) : Int) by omega, sc_s2 tt9 rfl (by omega) (by omega)]
    simp only [cf_k]
    obtain ⟨n, rfl⟩ := Nat.exists_eq_add_of_le' (show 2 ≤ n by omega)
    refine K159 fun hbd2 => ?_
    unfold F159
    simp only [cf_k]
    refine ib_ok ?_
    rw [indexByte_cut]
    cases hcut : cut1 x ((l.drop (i + 1)).take (l.length - 1 - (i + 1))) with
    | none =>
     rw [c2 hcut, sh_m] at k
     simp only [lt_i]
     rw [decide_eq_true (by decide), cd_t]
     exact fun _ => k
    | some p =>
     obtain ⟨a, b⟩ := p
     obtain ⟨d1, d2, d3⟩ := c1 a b hcut
     rw [d3, sh_sh (ix2_ge _ _ _)] at k
     simp only [lt_i]
     rw [decide_eq_false (show ¬ ((a.length : Nat) : Int) < 0 by omega), cd_f]
     unfold F137_174
     rw [ad_64 (by omega), ad_64 (by omega), show (i : Int) + ((a.length : Nat) + 1) = ((i + 1 + a.length : Nat) : Int) by omega]
     rw [show i + (a.length + 1) = i + 1 + a.length by omega] at k
     exact at_ (i + 1 + a.length) (by omega) d2 d1 k
  ·rw [decide_eq_false (show ¬ (i : Int) < ((l.length - 1 : Nat) : Int) by omega), cd_f]
   rw [ix2_short (l := l.drop i) (by rw [List.length_drop]; omega), sh_m] at k
   exact fun _ => k
theorem idx2_ok {n : Nat} (hn : 3 ≤ n) {l : Bs} {x y : UInt8} {h : H} {K : V → H → Prop} (L : Low h) (hl : l.length < 100000) (k : K (.i .i64 (ix2 x y l)) h) : Ok Tryz.prog n 137 [.s l, .s [x, y]] h K := by
 obtain ⟨n, rfl⟩ := Nat.exists_eq_add_of_le' hn
 refine Ok.bd (K137 fun hbd => ?_)
 unfold F137
 have d1 : decide (((([x, y] : Bs).length : Nat) : Int) = 0) = false := rfl
 have d2 : decide (((([x, y] : Bs).length : Nat) : Int) = 1) = false := rfl
 rw [lg_s tt9 rfl]
 simp only [eq_i, d1, g0_f, eq_s, pk_f]
 cases he : (([x, y] : Bs) == l) with
 | true =>
  have := eq_of_beq he
  subst this
  rw [cd_t]
  rw [ix2_hit] at k
  exact fun _ => k
 | false =>
  rw [cd_f, d2, cd_f, lg_s tt9 rfl, ge_i]
  have hp : (([x, y] : Bs).length : Int) = 2 := rfl
  rw [hp]
  by_cases h2 : l.length ≤ 2
  ·rw [decide_eq_true (show (l.length : Int) ≤ 2 by omega), cd_t]
   have : ix2 x y l = -1 := by
    match l, h2, he with
    | [], _, _ => rfl
    | [_], _, _ => rfl
    | [a, b], _, he =>
     rw [ix2_cons, ix2_short (by simp), sh_m]
     rintro ⟨rfl, h3⟩
     simp only [List.getElem?_cons_zero, Option.some.injEq] at h3
     subst h3
     simp at he
   rw [this] at k
   exact fun _ => k
  rw [decide_eq_false (show ¬ (l.length : Int) ≤ 2 by omega), cd_f]
  obtain ⟨m, ty, w, hg⟩ := L.ml
  rw [l1_a hg rfl, le_i]
  have long : F137_7 pw (mkX Tryz.prog) (Ok Tryz.prog (n + 2)) (fun v h => Bd h → K v h) (.s l) (.s [x, y]) (.i .i64 2) h := by
   unfold F137_7
   have i0 : ∀ κ : V → Prop, pw.ix (mkX Tryz.prog) 9 (.s [x, y]) (.i .i64 0) κ = κ (.i .u8 x.toNat) := fun κ => ix_s tt9 rfl (n := 0) rfl
   have i1 : ∀ κ : V → Prop, pw.ix (mkX Tryz.prog) 9 (.s [x, y]) (.i .i64 1) κ = κ (.i .u8 y.toNat) := fun κ => ix_s tt9 rfl (n := 1) rfl
   rw [i0, i1, lg_s tt9 rfl]
   have w1 : IntKind.i64.wrap ((l.length : Int) - 2) = ((l.length - 2 : Nat) : Int) := by rw [wrap64_in (by omega)]; omega
   have w2 : IntKind.i64.wrap (((l.length - 2 : Nat) : Int) + 1) = ((l.length - 1 : Nat) : Int) := by rw [wrap64_in (by omega)]; omega
   simp only [sb_i, w1, ad_i, w2]
   exact xl_ok (by omega) L hl (by omega) 100000 0 0 (by omega) (by omega) (Nat.le_refl _) (by rw [List.drop_zero, sh_0 (ix2_ge _ _ _)]; exact k)
  by_cases hm : (2 : Int) ≤ m
  ·rw [decide_eq_true hm]
   simp only [g1_t]
   rw [lg_s tt9 rfl, le_i]
   by_cases h64 : (l.length : Int) ≤ 64
   ·rw [decide_eq_true h64, pk_t, cd_t]
    simp only [cf_k]
    refine is_ok hg (by simp) (by omega) (by rw [hp]; exact hm) ?_
    rw [index_ix2]
    exact fun _ => k
   ·rw [decide_eq_false h64, pk_t, cd_f]
    exact long
  ·rw [decide_eq_false hm]
   simp only [g1_f, pk_f, cd_f]
   exact long
theorem cut2_ok {n : Nat} (hn : 5 ≤ n) {l : Bs} {x y : UInt8} {h : H} {K : V → H → Prop} (L : Low h) (hl : l.length < 100000)
  (k1 : ∀ a b, cut2 x y l = some (a, b) → K (.t [.s a, .s b, .b true]) h) (k0 : cut2 x y l = none → K (.t [.s l, .s [], .b false]) h) : Ok Tryz.prog n 80 [.s l, .s [x, y]] h K := by
 obtain ⟨n, rfl⟩ := Nat.exists_eq_add_of_le' hn
 refine Ok.bd (K80 fun hbd => ?_)
 unfold F80
 simp (disch := omega) only [ws]
 refine K110 fun hbd => ?_
 unfold F110
 simp (disch := omega) only [ws]
 refine idx2_ok (by omega) L hl ?_
 unfold ix2
 cases hc : cut2 x y l with
 | none =>
  simp (disch := omega) only [ws, dec_f, F110_6]
  exact fun _ => k0 hc
 | some p =>
  obtain ⟨a, b⟩ := p
  have e1 := cut2_some hc
  have e2 := cut2_len hc
  have d0 : decide ((0 : Int) ≤ (a.length : Int)) = true := by simp
  simp only
  simp (disch := omega) only [ws, d0]
  rw [sc_s0 tt9 rfl (by omega)]
  simp (disch := omega) only [ws, lg_s tt9 rfl, List.length_cons, List.length_nil]
  rw [show ((a.length : Int) + ((0 + 1 + 1 : Nat) : Int)) = ((a.length + 2 : Nat) : Int) by omega, sc_s1 tt9 rfl (by omega)]
  simp (disch := omega) only [ws, List.getElem?_cons_zero, List.getElem?_cons_succ]
  intro _
  have t1 : l.take a.length = a := by rw [e1]; simp
  have t2 : l.drop (a.length + 2) = b := by
   have : l = (a ++ [x, y]) ++ b := by rw [e1]; simp
   rw [this]
   exact List.drop_left' (by simp)
  rw [t1, t2]
  exact k1 a b hc
theorem to2_ok {n : Nat} (hn : 6 ≤ n) {r : Nat} {l : Bs} {x y : UInt8} {d : Int} {h : H} {K : V → H → Prop} (L : Low h) (P : Prs h r l false d) (hl : l.length < 100000)
  (k : ∀ h' s b z, (match cut2 x y l with | some p => b = p.2 ∧ z = false | none => b = l ∧ z = true) → Prs h' r b z d → But h h' (some r) → K (.s s) h') : Ok Tryz.prog n 77 [.p r 0, .s [x, y]] h K := by
 obtain ⟨n, rfl⟩ := Nat.exists_eq_add_of_le' hn
 obtain ⟨ty, P⟩ := P
 refine Ok.bd (K77 fun hbd => ?_)
 unfold F77
 simp only [nl_p, fa_p, Nat.zero_add]
 rw [l1_a P rfl, cf_k]
 refine cut2_ok (by omega) L hl (fun a b e => ?_) (fun e => ?_)
 ·simp only [ex_t, List.getElem?_cons_zero, List.getElem?_cons_succ, oP_some, nt_b, Bool.not_true, g0_f, nl_p, fa_p, Nat.zero_add]
  rw [l1_a P rfl]
  simp only [pk_f, cd_f, F77_17, nl_p, fa_p, Nat.zero_add]
  refine s1_a P (by simp) rfl fun h1 hg f => ?_
  exact fun _ => k h1 _ b false (by rw [e]; exact ⟨rfl, rfl⟩) ⟨ty, hg⟩ f
 ·simp only [ex_t, List.getElem?_cons_zero, List.getElem?_cons_succ, oP_some, nt_b, Bool.not_false, g0_t, pk_t, cd_t, nl_p, fa_p, Nat.zero_add]
  refine s1_a P (by simp) rfl fun h1 hg f => ?_
  exact fun _ => k h1 _ l true (by rw [e]; exact ⟨rfl, rfl⟩) ⟨ty, hg⟩ f
end Go.Proofs.YtbkhielalbbopaaGreatDoor.Wb

set_option maxRecDepth 100000
namespace Go.Am.Xm
theorem get_in {s : Bs} {p k : Nat} : (⟨⟨s⟩⟩ : ByteArray).get! (p + k) = s[p + k]?.getD default := by
 show (⟨s⟩ : Array UInt8)[p + k]! = _
 simp only [List.getElem!_toArray]
 exact List.getElem!_eq_getElem?_getD
theorem size_in {s : Bs} : (⟨⟨s⟩⟩ : ByteArray).size = s.length := rfl
theorem u8_eq {b : UInt8} {n : Nat} (hn : n < 256) : b = UInt8.ofNat n ↔ b.toNat = n := by
 constructor
 ·rintro rfl
  rw [UInt8.toNat_ofNat']
  exact Nat.mod_eq_of_lt hn
 ·intro e
  apply UInt8.toNat.inj
  rw [UInt8.toNat_ofNat', e]
  exact (Nat.mod_eq_of_lt hn).symm
end Go.Am.Xm
namespace Go.Proofs.YtbkhielalbbopaaGreatDoor.Wb
open Go Go.Am Go.Am.Xm
theorem but_putB {h : H} {r : Nat} {b : B} (hr : r < h.next) : But h (putB h r b) (some r) :=
 ⟨Nat.le_refl _, fun q hq hne => by
  show (h.mem.put r _).get q = _
  rw [T.get_put, if_neg (fun e => hne (by rw [e]))], fun hb => bd_putB hb hr⟩
end Go.Proofs.YtbkhielalbbopaaGreatDoor.Wb

set_option maxRecDepth 100000
namespace Go.Am.Xm
def nth (l : Bs) (k : Nat) : Nat := (l[k]?.getD default).toNat
def ct (l : Bs) (k : Nat) : Bool := decide (k < l.length) && nth l k / 64 == 2
def r2 (l : Bs) : Nat := (nth l 0 % 32) * 64 + nth l 1 % 64
def r3 (l : Bs) : Nat := (nth l 0 % 16) * 4096 + (nth l 1 % 64) * 64 + nth l 2 % 64
def r4 (l : Bs) : Nat := (nth l 0 % 8) * 262144 + (nth l 1 % 64) * 4096 + (nth l 2 % 64) * 64 + nth l 3 % 64
def ru (l : Bs) : Nat × Nat :=
 if nth l 0 < 128 then (nth l 0, 1)
 else if nth l 0 / 32 == 6 && ct l 1 then (if 128 ≤ r2 l then (r2 l, 2) else (0, 0))
 else if nth l 0 / 16 == 14 && ct l 1 && ct l 2 then (if 2048 ≤ r3 l ∧ (r3 l < 55296 ∨ 57344 ≤ r3 l) then (r3 l, 3) else (0, 0))
 else if nth l 0 / 8 == 30 && ct l 1 && ct l 2 && ct l 3 then (if 65536 ≤ r4 l ∧ r4 l ≤ 1114111 then (r4 l, 4) else (0, 0))
 else (0, 0)
theorem nth_lt (l : Bs) (k : Nat) : nth l k < 256 := UInt8.toNat_lt _
theorem nth_at {l : Bs} {k : Nat} {b : UInt8} (h : l[k]? = some b) : nth l k = b.toNat := by unfold nth; rw [h]; rfl
theorem nth_drop (l : Bs) (p k : Nat) : nth (l.drop p) k = nth l (p + k) := by unfold nth; rw [List.getElem?_drop]
theorem decode_ru {s : Bs} {p : Nat} : Utf8.decode ⟨⟨s⟩⟩ p = if (ru (s.drop p)).2 = 0 then (65533, 1) else ru (s.drop p) := by
 have e : ∀ k, ((⟨⟨s⟩⟩ : ByteArray).get! (p + k)).toNat = nth (s.drop p) k := fun k => by
  rw [get_in]; unfold nth; rw [List.getElem?_drop]
 have c : ∀ k, (decide (p + k < (⟨⟨s⟩⟩ : ByteArray).size) && nth (s.drop p) k / 64 == 2) = ct (s.drop p) k := fun k => by
  unfold ct
  rw [size_in, List.length_drop]
  congr 1
  exact decide_eq_decide.2 (by omega)
 unfold Utf8.decode ru
 simp only [e, c]
 generalize s.drop p = l
 by_cases h0 : nth l 0 < 128
 ·rw [if_pos h0, if_pos h0]; rfl
 rw [if_neg h0, if_neg h0]
 cases h1 : (nth l 0 / 32 == 6 && ct l 1) with
 | true =>
  simp only [if_true]
  change (if r2 l ≥ 128 then (r2 l, 2) else (Utf8.runeError, 1)) = _
  by_cases h2 : 128 ≤ r2 l
  ·rw [if_pos h2, if_pos (show r2 l ≥ 128 from h2)]; rfl
  ·rw [if_neg h2, if_neg (show ¬ r2 l ≥ 128 from h2)]; rfl
 | false =>
  simp only [Bool.false_eq_true, if_false]
  cases h3 : (nth l 0 / 16 == 14 && ct l 1 && ct l 2) with
  | true =>
   simp only [if_true]
   have hv : (decide (r3 l ≥ 2048) && Utf8.valid (r3 l : Nat)) = true ↔ (2048 ≤ r3 l ∧ (r3 l < 55296 ∨ 57344 ≤ r3 l)) := by
    have a1 := nth_lt l 0
    have hb : r3 l < 65536 := by unfold r3; omega
    unfold Utf8.valid
    simp only [Bool.and_eq_true, Bool.or_eq_true, decide_eq_true_eq]
    omega
   by_cases h2 : 2048 ≤ r3 l ∧ (r3 l < 55296 ∨ 57344 ≤ r3 l)
   ·rw [if_pos h2]
    have := hv.2 h2
    unfold r3 at this ⊢
    simp only [this, if_true]; rfl
   ·rw [if_neg h2]
    have : (decide (r3 l ≥ 2048) && Utf8.valid (r3 l : Nat)) = false := by
     cases hh : (decide (r3 l ≥ 2048) && Utf8.valid (r3 l : Nat)) with
     | false => rfl
     | true => exact absurd (hv.1 hh) h2
    unfold r3 at this
    simp only [this, Bool.false_eq_true, if_false]; rfl
  | false =>
   simp only [Bool.false_eq_true, if_false]
   cases h4 : (nth l 0 / 8 == 30 && ct l 1 && ct l 2 && ct l 3) with
   | true =>
    simp only [if_true]
    have hv : (decide (r4 l ≥ 65536) && Utf8.valid (r4 l : Nat)) = true ↔ (65536 ≤ r4 l ∧ r4 l ≤ 1114111) := by
     unfold Utf8.valid
     simp only [Bool.and_eq_true, Bool.or_eq_true, decide_eq_true_eq]
     omega
    by_cases h2 : 65536 ≤ r4 l ∧ r4 l ≤ 1114111
    ·rw [if_pos h2]
     have := hv.2 h2
     unfold r4 at this ⊢
     simp only [this, if_true]; rfl
    ·rw [if_neg h2]
     have : (decide (r4 l ≥ 65536) && Utf8.valid (r4 l : Nat)) = false := by
      cases hh : (decide (r4 l ≥ 65536) && Utf8.valid (r4 l : Nat)) with
      | false => rfl
      | true => exact absurd (hv.1 hh) h2
     unfold r4 at this
     simp only [this, Bool.false_eq_true, if_false]; rfl
   | false => rfl
theorem ct_lt {l : Bs} {k : Nat} (h : ct l k = true) : k < l.length := by
 unfold ct at h
 rw [Bool.and_eq_true, decide_eq_true_eq] at h
 exact h.1
theorem ru_le {l : Bs} (h : l ≠ []) : (ru l).2 ≤ l.length := by
 have hp := List.length_pos_iff.2 h
 unfold ru
 split
 ·exact hp
 split
 ·rename_i _ e
  rw [Bool.and_eq_true] at e
  have := ct_lt e.2
  split <;> simp only <;> omega
 split
 ·rename_i _ _ e
  rw [Bool.and_eq_true] at e
  have := ct_lt e.2
  split <;> simp only <;> omega
 split
 ·rename_i _ _ _ e
  rw [Bool.and_eq_true] at e
  have := ct_lt e.2
  split <;> simp only <;> omega
 ·simp
def wkR (f : Nat → Bool) : Nat → Bs → Bool
 | _, [] => true
 | 0, _ :: _ => false
 | m + 1, a :: t => if (ru (a :: t)).2 = 0 then false else f (ru (a :: t)).1 && wkR f m ((a :: t).drop (ru (a :: t)).2)
theorem wkR_fuel (f : Nat → Bool) : ∀ (m m' : Nat) (l : Bs), l.length ≤ m → l.length ≤ m' → wkR f m l = wkR f m' l
 | m, m', [], _, _ => by cases m <;> cases m' <;> rfl
 | 0, _, _ :: _, h, _ => by simp at h
 | _, 0, _ :: _, _, h => by simp at h
 | m + 1, m' + 1, a :: t, h, h' => by
  simp only [wkR]
  split
  ·rfl
  ·rename_i hz
   have hd : ((a :: t).drop (ru (a :: t)).2).length ≤ t.length := by rw [List.length_drop, List.length_cons]; omega
   simp only [List.length_cons] at h h'
   rw [wkR_fuel f m m' _ (by omega) (by omega)]
def wkS (f : Nat → Bool) (l : Bs) : Bool := wkR f l.length l
theorem wkS_nil (f : Nat → Bool) : wkS f [] = true := rfl
theorem wkS_ne {f : Nat → Bool} {l : Bs} (h : l ≠ []) : wkS f l = if (ru l).2 = 0 then false else f (ru l).1 && wkS f (l.drop (ru l).2) := by
 cases l with
 | nil => exact absurd rfl h
 | cons a t =>
  unfold wkS
  rw [List.length_cons, wkR]
  split
  ·rfl
  ·rename_i hz
   congr 1
   exact wkR_fuel f _ _ _ (by rw [List.length_drop, List.length_cons]; omega) (Nat.le_refl _)
theorem wkS_lo {f : Nat → Bool} {a : UInt8} {t : Bs} (h : a.toNat < 128) : wkS f (a :: t) = (f a.toNat && wkS f t) := by
 have e : ru (a :: t) = (a.toNat, 1) := by
  unfold ru
  rw [nth_at (b := a) rfl, if_pos h]
 rw [wkS_ne (by simp), e]; rfl
theorem wkS_low : ∀ (k : Nat) {l : Bs}, k ≤ l.length → (∀ j, j < k → ∀ b, l[j]? = some b → b.toNat < 128) → wkS (fun _ => true) l = wkS (fun _ => true) (l.drop k)
 | 0, l, _, _ => rfl
 | k + 1, [], h, _ => by simp at h
 | k + 1, a :: t, h, hb => by
  rw [wkS_lo (hb 0 (by omega) a rfl), Bool.true_and, List.drop_succ_cons]
  exact wkS_low k (by simpa using h) fun j hj b e => hb (j + 1) (by omega) b e
theorem wkS_and {f g : Nat → Bool} (hfg : ∀ l, l ≠ [] → (ru l).2 ≠ 0 → f (ru l).1 = g (ru l).1) : ∀ (m : Nat) (l : Bs), l.length ≤ m → wkS f l = (wkS (fun _ => true) l && wkS g l)
 | m, [], _ => rfl
 | 0, _ :: _, h => by simp at h
 | m + 1, a :: t, h => by
  rw [wkS_ne (f := f) (by simp), wkS_ne (f := g) (by simp), wkS_ne (f := fun _ => true) (by simp)]
  split
  ·rfl
  ·rename_i hz
   rw [hfg _ (by simp) hz, wkS_and hfg m _ (by rw [List.length_drop]; simp only [List.length_cons] at h ⊢; omega)]
   cases g (ru (a :: t)).1 <;> simp
end Go.Am.Xm

set_option maxRecDepth 100000
namespace Go.Proofs.YtbkhielalbbopaaGreatDoor.Wb
open Go Go.Am Go.Am.Xm
section
variable {x : X} {κ : V → Prop} {s t : TypeId}
theorem ci_bv {b : UInt8} : pw.ci x s t .u64 (.i .u8 (b.toNat : Int)) κ = κ (.i .u64 ((BitVec.ofNat 64 b.toNat).toNat : Int)) := by
 rw [ci_i, wrap_u64', BitVec.toNat_ofNat]
 rfl
theorem ofI_bv (X : BitVec 64) : BitVec.ofInt 64 (X.toNat : Int) = X := by
 rw [BitVec.ofInt_natCast, BitVec.ofNat_toNat, BitVec.setWidth_eq]
theorem or_bv {X Y : BitVec 64} : pw.or x t (.i .u64 (X.toNat : Int)) (.i .u64 (Y.toNat : Int)) κ = κ (.i .u64 ((X ||| Y).toNat : Int)) := by
 rw [or_i]
 show κ (.i .u64 (IntKind.u64.wrap ((BitVec.ofInt 64 (X.toNat : Int) ||| BitVec.ofInt 64 (Y.toNat : Int)).toNat : Int))) = _
 rw [ofI_bv, ofI_bv, wrap_u64']
 congr 2
 have := (X ||| Y).isLt
 omega
theorem an_bv {X Y : BitVec 64} : pw.an x t (.i .u64 (X.toNat : Int)) (.i .u64 (Y.toNat : Int)) κ = κ (.i .u64 ((X &&& Y).toNat : Int)) := by
 rw [an_i]
 show κ (.i .u64 (IntKind.u64.wrap ((BitVec.ofInt 64 (X.toNat : Int) &&& BitVec.ofInt 64 (Y.toNat : Int)).toNat : Int))) = _
 rw [ofI_bv, ofI_bv, wrap_u64']
 congr 2
 have := (X &&& Y).isLt
 omega
theorem sl_bv {X : BitVec 64} {k' : IntKind} (n : Nat) (hn : n ≤ 64) : pw.sl x t (.i .u64 (X.toNat : Int)) (.i k' (n : Int)) κ = κ (.i .u64 ((X <<< n).toNat : Int)) := by
 rw [sl_k (k := .u64) n hn, wrap_u64', BitVec.toNat_shiftLeft, Nat.shiftLeft_eq]
 rfl
end
def hiB : BitVec 64 := 9259542123273814144#64
theorem hiB_i : (9259542123273814144 : Int) = (hiB.toNat : Int) := by decide
theorem bv0 (X : BitVec 64) : decide (((X.toNat : Nat) : Int) = 0) = decide (X = 0#64) := by
 refine decide_eq_decide.2 ⟨fun h => BitVec.eq_of_toNat_eq (by simpa using h), fun h => by rw [h]; rfl⟩
theorem hi_or {X Y : BitVec 64} (h : (X ||| Y) &&& hiB = 0#64) : X &&& hiB = 0#64 ∧ Y &&& hiB = 0#64 := by
 have key : ∀ i, i < 64 → ((X.getLsbD i || Y.getLsbD i) && hiB.getLsbD i) = false := fun i _ => by
  have := congrArg (fun z => BitVec.getLsbD z i) h
  simpa [BitVec.getLsbD_and, BitVec.getLsbD_or] using this
 constructor <;> refine BitVec.eq_of_getLsbD_eq fun i hi => ?_ <;> have := key i hi <;> rw [BitVec.getLsbD_and] <;> revert this <;> cases X.getLsbD i <;> cases Y.getLsbD i <;> cases hiB.getLsbD i <;> simp
theorem bit7 {b : UInt8} (h : (BitVec.ofNat 64 b.toNat).getLsbD 7 = false) : b.toNat < 128 := by
 rw [BitVec.getLsbD_ofNat] at h
 simp only [show decide (7 < 64) = true from rfl, Bool.true_and] at h
 rw [Nat.testBit_eq_decide_div_mod_eq, decide_eq_false_iff_not] at h
 have := b.toNat_lt
 omega
theorem hi_bit {X : BitVec 64} (h : X &&& hiB = 0#64) (i : Nat) (hi : i < 8) : X.getLsbD (8 * i + 7) = false := by
 have := congrArg (fun z => BitVec.getLsbD z (8 * i + 7)) h
 simp only [BitVec.getLsbD_and, BitVec.getLsbD_zero] at this
 have hb : hiB.getLsbD (8 * i + 7) = true := by
  have : ∀ i, i < 8 → hiB.getLsbD (8 * i + 7) = true := by decide
  exact this i hi
 rw [hb, Bool.and_true] at this
 exact this
set_option maxHeartbeats 4000000 in
theorem wdG_ok {n : Nat} (hn : 1 ≤ n) {l : Bs} (hl : 8 ≤ l.length) {h : H} {K : V → H → Prop} (k : ∀ Z : BitVec 64, (Z &&& hiB = 0#64 → ∀ j, j < 8 → ∀ b, l[j]? = some b → b.toNat < 128) → K (.i .u64 (Z.toNat : Int)) h) : Ok Tryz.prog n 105 [.s l] h K := by
 obtain ⟨n, rfl⟩ := Nat.exists_eq_add_of_le' hn
 refine Ok.bd (K105 fun hbd => ?_)
 unfold F105
 rw [cd_f]
 unfold F105_3
 obtain ⟨b0, b1, b2, b3, b4, b5, b6, b7, r, rfl⟩ : ∃ b0 b1 b2 b3 b4 b5 b6 b7 r, l = b0 :: b1 :: b2 :: b3 :: b4 :: b5 :: b6 :: b7 :: r := by
  match l, hl with
  | b0 :: b1 :: b2 :: b3 :: b4 :: b5 :: b6 :: b7 :: r, _ => exact ⟨b0, b1, b2, b3, b4, b5, b6, b7, r, rfl⟩
 generalize hL : (b0 :: b1 :: b2 :: b3 :: b4 :: b5 :: b6 :: b7 :: r) = l
 have ix : ∀ (i : Nat) (z : UInt8) (κ : V → Prop), l[i]? = some z → pw.ix (mkX Tryz.prog) 9 (.s l) (.i .i64 (i : Int)) κ = κ (.i .u8 z.toNat) := fun i z κ hz => ix_s tt9 rfl hz
 have i0 := fun κ => ix 0 b0 κ (by rw [← hL]; rfl)
 have i1 := fun κ => ix 1 b1 κ (by rw [← hL]; rfl)
 have i2 := fun κ => ix 2 b2 κ (by rw [← hL]; rfl)
 have i3 := fun κ => ix 3 b3 κ (by rw [← hL]; rfl)
 have i4 := fun κ => ix 4 b4 κ (by rw [← hL]; rfl)
 have i5 := fun κ => ix 5 b5 κ (by rw [← hL]; rfl)
 have i6 := fun κ => ix 6 b6 κ (by rw [← hL]; rfl)
 have i7 := fun κ => ix 7 b7 κ (by rw [← hL]; rfl)
 simp only [Int.cast_ofNat_Int] at i0 i1 i2 i3 i4 i5 i6 i7
 rw [i0, ci_bv, i1, ci_bv, show (8 : Int) = ((8 : Nat) : Int) from rfl, sl_bv 8 (by decide), or_bv, i2, ci_bv, show (16 : Int) = ((16 : Nat) : Int) from rfl, sl_bv 16 (by decide), or_bv,
  i3, ci_bv, show (24 : Int) = ((24 : Nat) : Int) from rfl, sl_bv 24 (by decide), or_bv, i4, ci_bv, show (32 : Int) = ((32 : Nat) : Int) from rfl, sl_bv 32 (by decide), or_bv, i5, ci_bv, show (40 : Int) = ((40 : Nat) : Int) from rfl, sl_bv 40 (by decide), or_bv,
  i6, ci_bv, show (48 : Int) = ((48 : Nat) : Int) from rfl, sl_bv 48 (by decide), or_bv, i7, ci_bv, show (56 : Int) = ((56 : Nat) : Int) from rfl, sl_bv 56 (by decide), or_bv]
 refine fun _ => k _ fun hz j hj b hb => ?_
 have hbit := hi_bit hz
 match j, hj with
 | 0, _ => cases hb; have := hbit 0 (by decide); simp [BitVec.getLsbD_or, BitVec.getLsbD_shiftLeft] at this; exact bit7 (by simpa using this)
 | 1, _ => cases hb; have := hbit 1 (by decide); simp [BitVec.getLsbD_or, BitVec.getLsbD_shiftLeft] at this; exact bit7 (by simpa using this.2)
 | 2, _ => cases hb; have := hbit 2 (by decide); simp [BitVec.getLsbD_or, BitVec.getLsbD_shiftLeft] at this; exact bit7 (by simpa using this.2)
 | 3, _ => cases hb; have := hbit 3 (by decide); simp [BitVec.getLsbD_or, BitVec.getLsbD_shiftLeft] at this; exact bit7 (by simpa using this.2)
 | 4, _ => cases hb; have := hbit 4 (by decide); simp [BitVec.getLsbD_or, BitVec.getLsbD_shiftLeft] at this; exact bit7 (by simpa using this.2)
 | 5, _ => cases hb; have := hbit 5 (by decide); simp [BitVec.getLsbD_or, BitVec.getLsbD_shiftLeft] at this; exact bit7 (by simpa using this.2)
 | 6, _ => cases hb; have := hbit 6 (by decide); simp [BitVec.getLsbD_or, BitVec.getLsbD_shiftLeft] at this; exact bit7 (by simpa using this.2)
 | 7, _ => cases hb; have := hbit 7 (by decide); simp [BitVec.getLsbD_or, BitVec.getLsbD_shiftLeft] at this; exact bit7 (by simpa using this.2)
 | j + 8, hj => omega
def firstT : List Int := [240, 240, 240, 240, 240, 240, 240, 240, 240, 240, 240, 240, 240, 240, 240, 240, 240, 240, 240, 240, 240, 240, 240, 240, 240, 240, 240, 240, 240, 240, 240, 240, 240, 240, 240, 240, 240, 240, 240, 240, 240, 240, 240, 240, 240, 240, 240, 240, 240, 240, 240, 240, 240, 240, 240, 240, 240, 240, 240, 240, 240, 240, 240, 240, 240, 240, 240, 240, 240, 240, 240, 240, 240, 240, 240, 240, 240, 240, 240, 240, 240, 240, 240, 240, 240, 240, 240, 240, 240, 240, 240, 240, 240, 240, 240, 240, 240, 240, 240, 240, 240, 240, 240, 240, 240, 240, 240, 240, 240, 240, 240, 240, 240, 240, 240, 240, 240, 240, 240, 240, 240, 240, 240, 240, 240, 240, 240, 240, 241, 241, 241, 241, 241, 241, 241, 241, 241, 241, 241, 241, 241, 241, 241, 241, 241, 241, 241, 241, 241, 241, 241, 241, 241, 241, 241, 241, 241, 241, 241, 241, 241, 241, 241, 241, 241, 241, 241, 241, 241, 241, 241, 241, 241, 241, 241, 241, 241, 241, 241, 241, 241, 241, 241, 241, 241, 241, 241, 241, 241, 241, 241, 241, 241, 241, 2, 2, 2, 2, 2, 2, 2, 2, 2, 2, 2, 2, 2, 2, 2, 2, 2, 2, 2, 2, 2, 2, 2, 2, 2, 2, 2, 2, 2, 2, 19, 3, 3, 3, 3, 3, 3, 3, 3, 3, 3, 3, 3, 35, 3, 3, 52, 4, 4, 4, 68, 241, 241, 241, 241, 241, 241, 241, 241, 241, 241, 241]
def accT : List Int := [128, 191, 160, 191, 128, 159, 144, 191, 128, 143, 0, 0, 0, 0, 0, 0, 0, 0, 0, 0, 0, 0, 0, 0, 0, 0, 0, 0, 0, 0, 0, 0]
structure TB (h : H) : Prop where
 f : ∃ ty w, h.mem.get 0 = some (.c (firstT.map (V.i .u8)) ty w)
 a : ∃ ty w, h.mem.get 1 = some (.c (accT.map (V.i .u8)) ty w)
 n : 16 ≤ h.next
theorem TB.keep {h h' : H} {q : Option Nat} (T : TB h) (f : But h h' q) (hq : ∀ z, q = some z → 16 ≤ z) : TB h' := by
 obtain ⟨⟨t1, w1, g1⟩, ⟨t2, w2, g2⟩, n⟩ := T
 have ne : ∀ i, i < 16 → some i ≠ q := fun i hi e => by have := hq i e.symm; omega
 exact ⟨⟨t1, w1, f.get (by omega) (ne 0 (by decide)) g1⟩, ⟨t2, w2, f.get (by omega) (ne 1 (by decide)) g2⟩, Nat.le_trans n f.1⟩
def fx (b : Nat) : Nat := (firstT.getD b 0).toNat
def ax (k : Nat) : Nat := (accT.getD k 0).toNat
def okS (sz lo hi : Nat) (l : Bs) : Bool := if sz = 2 then ct' 1 l lo hi else if sz = 3 then ct' 1 l lo hi && ct' 2 l 128 191 else if sz = 4 then ct' 1 l lo hi && ct' 2 l 128 191 && ct' 3 l 128 191 else false
where ct' (k : Nat) (l : Bs) (lo hi : Nat) : Bool := decide (k < l.length) && (decide (lo ≤ nth l k) && decide (nth l k ≤ hi))
def clsT (b : Nat) : Nat × Nat × Nat := if b < 194 then (1, 0, 0) else if b < 224 then (2, 128, 191) else if b = 224 then (3, 160, 191) else if b = 237 then (3, 128, 159) else if b < 240 then (3, 128, 191) else if b = 240 then (4, 144, 191) else if b < 244 then (4, 128, 191) else if b = 244 then (4, 128, 143) else (1, 0, 0)
theorem tab_all : (List.range 128).all (fun i => decide ((fx (i + 128) % 8, ax (2 * (fx (i + 128) / 16)), ax (2 * (fx (i + 128) / 16) + 1)) = clsT (i + 128))) = true := by decide +kernel
theorem tab_cls {b : Nat} (h : 128 ≤ b) (h2 : b < 256) : (fx b % 8, ax (2 * (fx b / 16)), ax (2 * (fx b / 16) + 1)) = clsT b := by
 have := List.all_eq_true.1 tab_all (b - 128) (List.mem_range.2 (by omega))
 rw [decide_eq_true_eq, show b - 128 + 128 = b by omega] at this
 exact this
theorem ct_ct' (l : Bs) (k : Nat) : ct l k = okS.ct' k l 128 191 := by
 unfold ct okS.ct'
 congr 1
 rw [Bool.eq_iff_iff]
 simp
 omega
theorem ru_okS {l : Bs} (h : 128 ≤ nth l 0) : (ru l).2 = if okS (clsT (nth l 0)).1 (clsT (nth l 0)).2.1 (clsT (nth l 0)).2.2 l = true then (clsT (nth l 0)).1 else 0 := by
 have h0 := nth_lt l 0
 have h1 := nth_lt l 1
 have h2 := nth_lt l 2
 have h3 := nth_lt l 3
 have cls : nth l 0 < 194 ∧ clsT (nth l 0) = (1, 0, 0) ∨ (194 ≤ nth l 0 ∧ nth l 0 < 224 ∧ clsT (nth l 0) = (2, 128, 191)) ∨ (nth l 0 = 224 ∧ clsT (nth l 0) = (3, 160, 191)) ∨ (nth l 0 = 237 ∧ clsT (nth l 0) = (3, 128, 159)) ∨
   (224 < nth l 0 ∧ nth l 0 ≠ 237 ∧ nth l 0 < 240 ∧ clsT (nth l 0) = (3, 128, 191)) ∨ (nth l 0 = 240 ∧ clsT (nth l 0) = (4, 144, 191)) ∨ (240 < nth l 0 ∧ nth l 0 < 244 ∧ clsT (nth l 0) = (4, 128, 191)) ∨ (nth l 0 = 244 ∧ clsT (nth l 0) = (4, 128, 143)) ∨ (244 < nth l 0 ∧ clsT (nth l 0) = (1, 0, 0)) := by
  unfold clsT
  split
  ·left; exact ⟨by omega, rfl⟩
  split
  ·right; left; exact ⟨by omega, by omega, rfl⟩
  split
  ·right; right; left; exact ⟨by omega, rfl⟩
  split
  ·right; right; right; left; exact ⟨by omega, rfl⟩
  split
  ·right; right; right; right; left; exact ⟨by omega, by omega, by omega, rfl⟩
  split
  ·right; right; right; right; right; left; exact ⟨by omega, rfl⟩
  split
  ·right; right; right; right; right; right; left; exact ⟨by omega, by omega, rfl⟩
  split
  ·right; right; right; right; right; right; right; left; exact ⟨by omega, rfl⟩
  ·right; right; right; right; right; right; right; right; exact ⟨by omega, rfl⟩
 have two : ∀ lo hi, 128 ≤ lo → hi ≤ 191 → okS.ct' 1 l lo hi = true → ct l 1 = true := fun lo hi a b e => by
  unfold okS.ct' at e
  unfold ct
  simp only [Bool.and_eq_true, decide_eq_true_eq, beq_iff_eq] at e ⊢
  omega
 rcases cls with ⟨c1, c2⟩ | ⟨c1, c1', c2⟩ | ⟨c1, c2⟩ | ⟨c1, c2⟩ | ⟨c1, c1', c1'', c2⟩ | ⟨c1, c2⟩ | ⟨c1, c1', c2⟩ | ⟨c1, c2⟩ | ⟨c1, c2⟩ <;> rw [c2] <;> unfold ru okS okS.ct' ct r2 r3 r4 <;> simp only [Bool.and_eq_true, decide_eq_true_eq, beq_iff_eq, Nat.reduceEqDiff, if_true, if_false, Bool.false_eq_true] <;> (repeat' split) <;> first | rfl | (exfalso; omega)
theorem cd_any {b : Bool} {x y : Prop} (hx : b = true → x) (hy : y) : pw.cd (.b b) x y := by
 cases b
 ·rw [cd_f]; exact hy
 ·rw [cd_t]; exact hx rfl
theorem sc_d {l : Bs} {m : Nat} (hm : m ≤ l.length) {κ : V → Prop} : pw.sc (mkX Tryz.prog) 9 (.s l) (some (.i .i64 (m : Int))) none none κ = κ (.s (l.drop m)) := sc_s1 tt9 rfl hm
def loB (l : Bs) (k : Nat) : Prop := ∀ j, j < k → ∀ b, l[j]? = some b → b.toNat < 128
theorem loB.app {l : Bs} {a b : Nat} (h : loB l a) (h2 : loB (l.drop a) b) : loB l (a + b) := fun j hj c hc => by
 by_cases h3 : j < a
 ·exact h j h3 c hc
 ·refine h2 (j - a) (by omega) c ?_
  rw [List.getElem?_drop, show a + (j - a) = j by omega]
  exact hc
abbrev vlB (l : Bs) : Bool := wkS (fun _ => true) l
theorem vinG_ok {n : Nat} (hn : 1 ≤ n) {K : V → H → Prop} {i5 : V → H → Prop} {h : H} :
  ∀ (m : Nat) (l : Bs), l.length < m → l.length < 1000000 → (∀ l' : Bs, l'.length ≤ l.length → vlB l' = vlB l → i5 (.s l') h) → F74_229 pw (mkX Tryz.prog) (Ok Tryz.prog n) K i5 m (.s l) h := by
 intro m
 induction m with
 | zero => intro l hm; omega
 | succ m ih =>
  intro l hm hl k
  rw [S74_229, lg_s tt9 rfl, gt_i]
  by_cases h32 : 32 < l.length
  ·rw [decide_eq_true (show (32 : Int) < (l.length : Nat) by omega)]
   simp only [g1_t]
   refine wdG_ok (l := l) hn (by omega) fun z1 p1 => ?_
   rw [show ((8 : Int)) = ((8 : Nat) : Int) from rfl, sc_d (by omega)]
   refine wdG_ok (l := l.drop 8) hn (by rw [List.length_drop]; omega) fun z2 p2 => ?_
   rw [or_bv, show ((16 : Int)) = ((16 : Nat) : Int) from rfl, sc_d (by omega)]
   refine wdG_ok (l := l.drop 16) hn (by rw [List.length_drop]; omega) fun z3 p3 => ?_
   rw [show ((24 : Int)) = ((24 : Nat) : Int) from rfl, sc_d (by omega)]
   refine wdG_ok (l := l.drop 24) hn (by rw [List.length_drop]; omega) fun z4 p4 => ?_
   rw [or_bv, or_bv, hiB_i, an_bv, eq_i, bv0]
   simp only [pk_t]
   refine cd_any (fun hz => ?_) (k l (Nat.le_refl _) rfl)
   have hz := hi_or (of_decide_eq_true hz)
   have za := hi_or hz.1
   have zb := hi_or hz.2
   have lo : loB l 32 := by
    have a1 : loB l 16 := loB.app (a := 8) (b := 8) (p1 za.1) (p2 za.2)
    have a2 : loB (l.drop 16) 16 := loB.app (a := 8) (b := 8) (p3 zb.1) (by rw [List.drop_drop]; exact p4 zb.2)
    exact loB.app (a := 16) (b := 16) a1 a2
   unfold F74_231
   rw [show ((32 : Int)) = ((32 : Nat) : Int) from rfl, sc_d (by omega)]
   have e := wkS_low 32 (l := l) (by omega) lo
   refine ih _ (by rw [List.length_drop]; omega) (by rw [List.length_drop]; omega) fun l' hl' hv => k l' (by rw [List.length_drop] at hl'; omega) (hv.trans e.symm)
  ·rw [decide_eq_false (show ¬ (32 : Int) < (l.length : Nat) by omega)]
   simp only [g1_f, pk_f, cd_f]
   exact k l (Nat.le_refl _) rfl
theorem an_all : (List.range 256).all (fun x => decide ((IntKind.u8.wrap (BitVec.ofInt 8 (x : Int) &&& BitVec.ofInt 8 7).toNat) = ((x % 8 : Nat) : Int))) = true := by decide +kernel
theorem an_7 {x : X} {t : TypeId} {z : Nat} (hz : z < 256) {κ : V → Prop} : pw.an x t (.i .u8 (z : Int)) (.i .u8 7) κ = κ (.i .u8 ((z % 8 : Nat) : Int)) := by
 rw [an_i]
 have := List.all_eq_true.1 an_all z (List.mem_range.2 hz)
 rw [decide_eq_true_eq] at this
 exact congrArg (fun z => κ (.i .u8 z)) this
theorem sr_4 {x : X} {t : TypeId} {z : Nat} {κ : V → Prop} : pw.sr x t (.i .u8 (z : Int)) (.i .u64 4) κ = κ (.i .u8 ((z / 16 : Nat) : Int)) := by
 rw [show (4 : Int) = ((4 : Nat) : Int) from rfl, sr_k 4 (by decide), show ((z : Int) / 2 ^ 4) = ((z / 16 : Nat) : Int) by omega]
theorem fx_at {b : Nat} (h : b < 256) : (firstT.map (V.i .u8))[b]? = some (.i .u8 (fx b : Int)) := by
 have : ∀ b, b < 256 → firstT[b]? = some (fx b : Int) := by decide +kernel
 rw [List.getElem?_map, this b h]; rfl
theorem fx_lt (b : Nat) : fx b < 256 := by
 have : ∀ z ∈ firstT, z.toNat < 256 := by decide
 unfold fx
 rw [List.getD_eq_getElem?_getD]
 cases h : firstT[b]? with
 | none => decide
 | some z => exact this z (List.mem_of_getElem? h)
theorem ax_at (k : Nat) (hk : k < 16) : (((accT.map (V.i .u8)).drop (k * 2)).take 2) = [.i .u8 (ax (2 * k) : Int), .i .u8 (ax (2 * k + 1) : Int)] := by
 have : ∀ k, k < 16 → ((accT.drop (k * 2)).take 2) = [(ax (2 * k) : Int), (ax (2 * k + 1) : Int)] := by decide +kernel
 rw [← List.map_drop, ← List.map_take, this k hk]; rfl
theorem cmpT {n m : Nat} : decide ((n : Int) < (m : Int)) = !decide (m ≤ n) := by
 by_cases h : m ≤ n
 ·rw [decide_eq_true h, decide_eq_false (by omega)]; rfl
 ·rw [decide_eq_false h, decide_eq_true (by omega)]; rfl
set_option maxHeartbeats 4000000 in
theorem v12_ok {n : Nat} {l : Bs} {b : UInt8} {t : Bs} (hl : l = b :: t) (hb : 128 ≤ b.toNat) {h : H} (T : TB h) {K : V → H → Prop} {i5 : V → H → Prop}
  (k1 : ∀ h', But h h' none → okS (fx b.toNat % 8) (ax (2 * (fx b.toNat / 16))) (ax (2 * (fx b.toNat / 16) + 1)) l = true → i5 (.s (l.drop (fx b.toNat % 8))) h')
  (k0 : ∀ h', But h h' none → okS (fx b.toNat % 8) (ax (2 * (fx b.toNat / 16))) (ax (2 * (fx b.toNat / 16) + 1)) l = false → K (.b false) h') :
  F74_12 pw (mkX Tryz.prog) (Ok Tryz.prog n) K i5 (.s l) (.i .u8 b.toNat) h := by
 unfold F74_12
 obtain ⟨⟨t1, w1, g1⟩, ⟨t2, w2, g2⟩, hn⟩ := T
 have h256 : b.toNat < 256 := b.toNat_lt
 rw [ir_p (show (0 : Int) ≤ (b.toNat : Int) ∧ (b.toNat : Int) < ((256 : Nat) : Int) by omega), Nat.zero_add, Int.toNat_natCast, Nat.mul_one, l1_a g1 (fx_at h256)]
 have hx := fx_lt b.toNat
 generalize fx b.toNat = x at *
 rw [an_7 hx, ci_i, wrap64_in (by omega), sr_4,
  ir_p (show (0 : Int) ≤ ((x / 16 : Nat) : Int) ∧ ((x / 16 : Nat) : Int) < ((16 : Nat) : Int) by omega), Nat.zero_add, Int.toNat_natCast, ln_a g2 (by rw [List.length_map]; show _ ≤ 32; omega), ax_at _ (by omega)]
 generalize hlo : ax (2 * (x / 16)) = lo at *
 generalize hhi : ax (2 * (x / 16) + 1) = hi at *
 refine al_a tt150 fun r h1 hg1 f1 r1 r2 => ?_
 refine sn_w hg1 (cs := [.i .u8 (lo : Int), .i .u8 (hi : Int)]) rfl rfl rfl rfl fun h2 hg2 f2 => ?_
 have f : But h h2 none := f1.over f2 (.inr fun z e => by cases e; exact r1)
 have l0 : ∀ κ : V → Prop, pw.l1 (.p r 0) h2 κ = κ (.i .u8 (lo : Int)) := fun κ => l1_a hg2 rfl
 have l1 : ∀ κ : V → Prop, pw.l1 (.p r 1) h2 κ = κ (.i .u8 (hi : Int)) := fun κ => l1_a hg2 rfl
 have ix : ∀ (k : Nat) (κ : V → Prop), k < l.length → pw.ix (mkX Tryz.prog) 9 (.s l) (.i .i64 (k : Int)) κ = κ (.i .u8 (nth l k : Int)) := fun k κ hk => by
  have hs := List.getElem?_eq_getElem hk
  rw [ix_s tt9 rfl hs, nth_at hs]
 have lg : ∀ κ : V → Prop, pw.lg (mkX Tryz.prog) 9 (.s l) κ = κ (.i .i64 (l.length : Int)) := fun κ => lg_s tt9 rfl
 have ix1 := fun κ => ix 1 κ
 have ix2 := fun κ => ix 2 κ
 have ix3 := fun κ => ix 3 κ
 simp only [Int.cast_ofNat_Int] at ix1 ix2 ix3
 have e128 : ∀ k, decide (((nth l k : Nat) : Int) < 128) = !decide (128 ≤ nth l k) := fun k => cmpT (m := 128)
 have e191 : ∀ k, decide ((191 : Int) < (nth l k : Nat)) = !decide (nth l k ≤ 191) := fun k => cmpT (n := 191)
 have k0' : okS (x % 8) lo hi l = false → K (.b false) h2 := fun e => k0 h2 f e
 have k1' := k1 h2 f
 unfold okS at k0' k1'
 have c0 : ∀ (k : Nat), ¬ k < l.length → ∀ a b, okS.ct' k l a b = false := fun k hk a b => by unfold okS.ct'; rw [decide_eq_false hk]; rfl
 have c1 : ∀ (k : Nat), k < l.length → ∀ a b, okS.ct' k l a b = (decide (a ≤ nth l k) && decide (nth l k ≤ b)) := fun k hk a b => by unfold okS.ct'; rw [decide_eq_true hk]; rfl
 have b1 : ∀ a b : Nat, (!decide (a ≤ b)) = true → ¬ a ≤ b := fun a b e => by simpa using e
 rw [eq_i]
 by_cases s2 : x % 8 = 2
 ·rw [if_pos s2] at k0' k1'
  rw [decide_eq_true (show ((x % 8 : Nat) : Int) = 2 by omega), cd_t, lg, lt_i]
  by_cases h1' : 1 < l.length
  ·rw [c1 1 h1'] at k0' k1'
   rw [decide_eq_false (show ¬ (l.length : Int) < 2 by omega)]
   simp only [g0_f, ix1 _ h1', fa_p, Nat.zero_add, l0, l1, lt_i, cmpT, pk_f]
   have kt : decide (lo ≤ nth l 1) = true → decide (nth l 1 ≤ hi) = true → F74_32 pw (mkX Tryz.prog) (Ok Tryz.prog n) K i5 (.s l) h2 := fun e1 e2 => by
    unfold F74_32
    rw [show (2 : Int) = ((2 : Nat) : Int) from rfl, sc_d (by omega), ← s2]
    exact k1' (by rw [e1, e2]; rfl)
   cases q1 : decide (lo ≤ nth l 1) <;> cases q2 : decide (nth l 1 ≤ hi) <;> simp only [g0_t, g0_f, pk_t, pk_f, Bool.not_true, Bool.not_false, cd_t, cd_f, fa_p, Nat.zero_add, l0, l1, ix1 _ (show 1 < l.length by omega), lt_i, cmpT, e128, e191, q1, q2] <;> first | exact kt q1 q2 | exact k0' (by rw [q1, q2]; rfl)
  ·rw [c0 1 h1'] at k0'
   rw [decide_eq_true (show (l.length : Int) < 2 by omega)]
   simp only [g0_t, pk_t, cd_t]
   exact k0' rfl
 rw [if_neg s2] at k0' k1'
 rw [decide_eq_false (show ¬ ((x % 8 : Nat) : Int) = 2 by omega), cd_f, eq_i]
 by_cases s3 : x % 8 = 3
 ·rw [if_pos s3] at k0' k1'
  rw [decide_eq_true (show ((x % 8 : Nat) : Int) = 3 by omega), cd_t, lg, lt_i]
  by_cases h2' : 2 < l.length
  ·rw [c1 1 (by omega), c1 2 h2'] at k0' k1'
   rw [decide_eq_false (show ¬ (l.length : Int) < 3 by omega)]
   simp only [g0_f, ix1 _ (show 1 < l.length by omega), ix2 _ h2', fa_p, Nat.zero_add, l0, l1, lt_i, e128, e191, cmpT, pk_f]
   have kt : decide (lo ≤ nth l 1) = true → decide (nth l 1 ≤ hi) = true → decide (128 ≤ nth l 2) = true → decide (nth l 2 ≤ 191) = true → F74_67 pw (mkX Tryz.prog) (Ok Tryz.prog n) K i5 (.s l) h2 := fun e1 e2 e3 e4 => by
    unfold F74_67
    rw [show (3 : Int) = ((3 : Nat) : Int) from rfl, sc_d (by omega), ← s3]
    exact k1' (by rw [e1, e2, e3, e4]; rfl)
   cases q1 : decide (lo ≤ nth l 1) <;> cases q2 : decide (nth l 1 ≤ hi) <;> cases q3 : decide (128 ≤ nth l 2) <;> cases q4 : decide (nth l 2 ≤ 191) <;> simp only [g0_t, g0_f, pk_t, pk_f, Bool.not_true, Bool.not_false, cd_t, cd_f, fa_p, Nat.zero_add, l0, l1, ix1 _ (show 1 < l.length by omega), ix2 _ (show 2 < l.length by omega), lt_i, cmpT, e128, e191, q1, q2, q3, q4] <;> first | exact kt q1 q2 q3 q4 | exact k0' (by rw [q1, q2, q3, q4]; rfl)
  ·rw [c0 2 h2', Bool.and_false] at k0'
   rw [decide_eq_true (show (l.length : Int) < 3 by omega)]
   simp only [g0_t, pk_t, cd_t]
   exact k0' rfl
 rw [if_neg s3] at k0' k1'
 rw [decide_eq_false (show ¬ ((x % 8 : Nat) : Int) = 3 by omega), cd_f, eq_i]
 by_cases s4 : x % 8 = 4
 ·rw [if_pos s4] at k0' k1'
  rw [decide_eq_true (show ((x % 8 : Nat) : Int) = 4 by omega), cd_t, lg, lt_i]
  by_cases h3' : 3 < l.length
  ·rw [c1 1 (by omega), c1 2 (by omega), c1 3 h3'] at k0' k1'
   rw [decide_eq_false (show ¬ (l.length : Int) < 4 by omega)]
   simp only [g0_f, ix1 _ (show 1 < l.length by omega), ix2 _ (show 2 < l.length by omega), ix3 _ h3', fa_p, Nat.zero_add, l0, l1, lt_i, e128, e191, cmpT, pk_f]
   have kt : decide (lo ≤ nth l 1) = true → decide (nth l 1 ≤ hi) = true → decide (128 ≤ nth l 2) = true → decide (nth l 2 ≤ 191) = true → decide (128 ≤ nth l 3) = true → decide (nth l 3 ≤ 191) = true → F74_118 pw (mkX Tryz.prog) (Ok Tryz.prog n) K i5 (.s l) h2 := fun e1 e2 e3 e4 e5 e6 => by
    unfold F74_118
    rw [show (4 : Int) = ((4 : Nat) : Int) from rfl, sc_d (by omega), ← s4]
    exact k1' (by rw [e1, e2, e3, e4, e5, e6]; rfl)
   cases q1 : decide (lo ≤ nth l 1) <;> cases q2 : decide (nth l 1 ≤ hi) <;> cases q3 : decide (128 ≤ nth l 2) <;> cases q4 : decide (nth l 2 ≤ 191) <;> cases q5 : decide (128 ≤ nth l 3) <;> cases q6 : decide (nth l 3 ≤ 191) <;> simp only [g0_t, g0_f, pk_t, pk_f, Bool.not_true, Bool.not_false, cd_t, cd_f, fa_p, Nat.zero_add, l0, l1, ix1 _ (show 1 < l.length by omega), ix2 _ (show 2 < l.length by omega), ix3 _ (show 3 < l.length by omega), lt_i, cmpT, e128, e191, q1, q2, q3, q4, q5, q6] <;> first | exact kt q1 q2 q3 q4 q5 q6 | exact k0' (by rw [q1, q2, q3, q4, q5, q6]; rfl)
  ·rw [c0 3 h3', Bool.and_false] at k0'
   rw [decide_eq_true (show (l.length : Int) < 4 by omega)]
   simp only [g0_t, pk_t, cd_t]
   exact k0' rfl
 rw [if_neg s4] at k0'
 rw [decide_eq_false (show ¬ ((x % 8 : Nat) : Int) = 4 by omega), cd_f]
 exact k0' rfl
set_option maxHeartbeats 4000000 in
theorem vsG_ok {n : Nat} (hn : 2 ≤ n) {l : Bs} (hl : l.length < 100000) {h : H} (TT : TB h) {K : V → H → Prop} (k : ∀ h', But h h' none → K (.b (vlB l)) h') : Ok Tryz.prog n 74 [.s l] h K := by
 obtain ⟨n, rfl⟩ := Nat.exists_eq_add_of_le' hn
 refine Ok.bd (K74 fun hbd => ?_)
 unfold F74
 have go : ∀ (m : Nat) (l' : Bs) (h' : H), l'.length < m → l'.length < 100000 → vlB l' = vlB l → But h h' none → F74_5 pw (mkX Tryz.prog) (Ok Tryz.prog (n + 1)) (fun v h => Bd h → K v h) m (.s l') h' := by
  intro m
  induction m with
  | zero => intro l' h' hm; omega
  | succ m ih =>
   intro l' h' hm hl' hv f
   rw [S74_5, lg_s tt9 rfl, gt_i]
   have TT' := TT.keep f (fun z e => by cases e)
   by_cases h0 : 0 < l'.length
   ·rw [decide_eq_true (show (0 : Int) < (l'.length : Nat) by omega), cd_t]
    unfold F74_7
    obtain ⟨c, t, rfl⟩ : ∃ c t, l' = c :: t := by
     cases l' with
     | nil => simp at h0
     | cons c t => exact ⟨c, t, rfl⟩
    have i0 : ∀ κ : V → Prop, pw.ix (mkX Tryz.prog) 9 (.s (c :: t)) (.i .i64 0) κ = κ (.i .u8 c.toNat) := fun κ => ix_s tt9 rfl (n := 0) rfl
    rw [i0, lt_i]
    simp only [List.length_cons] at hm hl'
    by_cases hc : c.toNat < 128
    ·rw [decide_eq_true (show (c.toNat : Int) < 128 by omega), cd_t]
     have again : ∀ l'' : Bs, l''.length ≤ t.length → vlB l'' = vlB t → F74_5 pw (mkX Tryz.prog) (Ok Tryz.prog (n + 1)) (fun v h => Bd h → K v h) m (.s l'') h' := fun l'' h1 h2 => ih l'' h' (by omega) (by omega) (by rw [h2, ← hv]; unfold vlB; rw [wkS_lo hc]; rfl) f
     have d1 : ∀ κ : V → Prop, pw.sc (mkX Tryz.prog) 9 (.s (c :: t)) (some (.i .i64 1)) none none κ = κ (.s t) := fun κ => sc_s1 tt9 rfl (n := 1) (by simp)
     rw [d1, lg_s tt9 rfl, gt_i]
     by_cases h8 : 8 < t.length
     ·rw [decide_eq_true (show (8 : Int) < (t.length : Nat) by omega)]
      simp only [g1_t]
      refine wdG_ok (l := t) (by omega) (by omega) fun z1 p1 => ?_
      rw [hiB_i, an_bv, eq_i, bv0]
      simp only [pk_t]
      refine cd_any (fun hz => ?_) (again t (Nat.le_refl _) rfl)
      have q1 := p1 (of_decide_eq_true hz)
      have v1 : vlB t = vlB (t.drop 8) := wkS_low 8 (by omega) q1
      rw [show ((8 : Int)) = ((8 : Nat) : Int) from rfl, sc_d (by omega), lg_s tt9 rfl, gt_i]
      have l2 : (t.drop 8).length = t.length - 8 := List.length_drop ..
      generalize t.drop 8 = t2 at v1 l2 ⊢
      by_cases h16 : 16 < t2.length
      ·rw [decide_eq_true (show (16 : Int) < (t2.length : Nat) by omega)]
       simp only [g1_t]
       refine wdG_ok (l := t2) (by omega) (by omega) fun z2 p2 => ?_
       rw [sc_d (by omega)]
       refine wdG_ok (l := t2.drop 8) (by omega) (by rw [List.length_drop]; omega) fun z3 p3 => ?_
       rw [or_bv, an_bv, eq_i, bv0]
       simp only [pk_t]
       refine cd_any (fun hz => ?_) (again t2 (by omega) v1.symm)
       have hz := hi_or (of_decide_eq_true hz)
       have v2 : vlB t2 = vlB (t2.drop 16) := wkS_low 16 (by omega) (loB.app (a := 8) (b := 8) (p2 hz.1) (p3 hz.2))
       rw [show ((16 : Int)) = ((16 : Nat) : Int) from rfl, sc_d (by omega)]
       refine vinG_ok (by omega) 100000 _ (by rw [List.length_drop]; omega) (by rw [List.length_drop]; omega) fun l'' h3 h4 => again l'' (by rw [List.length_drop] at h3; omega) (h4.trans (v2.symm.trans v1.symm))
      ·rw [decide_eq_false (show ¬ (16 : Int) < (t2.length : Nat) by omega)]
       simp only [g1_f, pk_f, cd_f]
       exact again t2 (by omega) v1.symm
     ·rw [decide_eq_false (show ¬ (8 : Int) < (t.length : Nat) by omega)]
      simp only [g1_f, pk_f, cd_f]
      exact again t (Nat.le_refl _) rfl
    ·rw [decide_eq_false (show ¬ (c.toNat : Int) < 128 by omega), cd_f]
     have e0 : nth (c :: t) 0 = c.toNat := nth_at rfl
     have hru := ru_okS (l := c :: t) (by rw [e0]; omega)
     have ht := tab_cls (b := c.toNat) (by omega) c.toNat_lt
     rw [e0, ← ht] at hru
     simp only at hru
     have hne := wkS_ne (f := fun _ => true) (l := c :: t) (by simp)
     refine v12_ok rfl (by omega) TT' (fun h2 f2 e => ?_) (fun h2 f2 e => ?_)
     ·rw [if_pos e] at hru
      have hz : fx c.toNat % 8 ≠ 0 := by
       intro hz
       unfold okS at e
       rw [hz] at e
       simp at e
      rw [hru, if_neg hz, Bool.true_and] at hne
      refine ih _ h2 (by rw [List.length_drop, List.length_cons]; omega) (by rw [List.length_drop, List.length_cons]; omega) ?_ (f.trans f2)
      rw [← hv]; exact hne.symm
     ·rw [if_neg (by rw [e]; decide)] at hru
      rw [hru, if_pos rfl] at hne
      have hv' : vlB l = false := by rw [← hv]; exact hne
      rw [hv'] at k
      exact fun _ => k h2 (f.trans f2)
   ·rw [decide_eq_false (show ¬ (0 : Int) < (l'.length : Nat) by omega), cd_f]
    unfold F74_3
    have hnil : l' = [] := List.length_eq_zero_iff.1 (by omega)
    subst hnil
    have : vlB l = true := by rw [← hv]; rfl
    rw [this] at k
    exact fun _ => k h' f
 exact go 100000 l h hl hl rfl (But.refl _ _)
def clnB (l : Bs) : Bool := wkS mayN l
theorem mayN_C {l : Bs} (h : l ≠ []) (hz : (ru l).2 ≠ 0) : mayN (ru l).1 = mayC ((ru l).1 : Int) := by
 have key : ∀ n : Nat, (n < 55296 ∨ (57343 < n ∧ n ≤ 1114111)) → mayN n = mayC (n : Int) := by
  intro n hn
  unfold mayN mayC
  have e1 : Nat.ble 32 n = decide ((32 : Int) ≤ n) := by rw [Bool.eq_iff_iff]; simp; omega
  have e2 : Nat.ble n 1114111 = true := by rw [Nat.ble_eq]; omega
  have e3 : (Nat.blt n 55296 || Nat.blt 57343 n) = true := by rw [Bool.or_eq_true]; simp [Nat.blt]; omega
  have e5 : ∀ k : Nat, Nat.beq n k = decide ((n : Int) = (k : Int)) := fun k => by rw [Bool.eq_iff_iff]; simp; omega
  rw [e1, e2, e3, e5, e5, e5]
  cases decide ((32 : Int) ≤ n) <;> cases decide ((n : Int) = ((9 : Nat) : Int)) <;> cases decide ((n : Int) = ((10 : Nat) : Int)) <;> rfl
 refine key _ ?_
 have h0 := nth_lt l 0
 have h1 := nth_lt l 1
 unfold ru at hz ⊢
 unfold r2 r3 r4 at *
 repeat' split
 all_goals simp_all
 all_goals omega
set_option maxHeartbeats 4000000 in
theorem cleanG_ok {n : Nat} (hn : 3 ≤ n) {l : Bs} (hl : l.length < 50000) {h : H} (TT : TB h) {K : V → H → Prop} (k : ∀ h', But h h' none → K (.b (clnB l)) h') : Ok Tryz.prog n 38 [.s l] h K := by
 obtain ⟨n, rfl⟩ := Nat.exists_eq_add_of_le' hn
 refine Ok.bd (K38 fun hbd => ?_)
 unfold F38
 rw [cf_k]
 have hand : clnB l = (vlB l && wkS (fun n => mayC (n : Int)) l) := wkS_and (fun l' h1 h2 => mayN_C h1 h2) l.length l (Nat.le_refl _)
 rw [hand] at k
 refine vsG_ok (by omega) (by omega) TT fun h0 f0 => ?_
 rw [nt_b]
 cases hv : vlB l with
 | false =>
  rw [hv] at k
  rw [Bool.not_false, cd_t]
  exact fun _ => k h0 f0
 | true =>
  rw [hv, Bool.true_and] at k
  rw [Bool.not_true, cd_f]
  unfold F38_3
  rw [rn_s tt9 rfl]
  have go : ∀ (m p : Nat) (h' : H) (ri : Nat), l.length - p < m → p ≤ l.length → h'.mem.get ri = some (.it l p) → But h0 h' none → h0.next ≤ ri → ri < h'.next → vlB (l.drop p) = true → wkS (fun n => mayC (n : Int)) (l.drop p) = wkS (fun n => mayC (n : Int)) l →
    F38_9 pw (mkX Tryz.prog) (Ok Tryz.prog (n + 2)) (fun v h => Bd h → K v h) m (.p ri 0) h' := by
   intro m
   induction m with
   | zero => intro p h' ri hm; omega
   | succ m ih =>
    intro p h' ri hm hp' hg f h1 h2 hvp hcp
    show pw.nx _ _ _ _
    by_cases hlt : p < l.length
    ·rw [nx_t hg hlt]
     have hne : l.drop p ≠ [] := by rw [ne_eq, List.drop_eq_nil_iff]; omega
     have e1 := wkS_ne (f := fun _ => true) hne
     have e2 := wkS_ne (f := fun n => mayC (n : Int)) hne
     have hle := ru_le hne
     rw [List.length_drop] at hle
     rw [decode_ru]
     rw [show wkS (fun _ => true) (l.drop p) = true from hvp] at e1
     by_cases hz : (ru (l.drop p)).2 = 0
     ·rw [if_pos hz] at e1
      cases e1
     rw [if_neg hz, Bool.true_and, List.drop_drop] at e1
     rw [if_neg hz, List.drop_drop, hcp] at e2
     rw [if_neg hz]
     simp only [ex_t, List.getElem?_cons_zero, oP_some, cd_t]
     unfold F38_13
     simp only [ex_t, List.getElem?_cons_zero, List.getElem?_cons_succ, oP_some, cf_k]
     refine may_ok (by omega) ?_
     rw [nt_b]
     have f1 : But h' (putB h' ri (.it l (p + (ru (l.drop p)).2))) (some ri) := but_putB h2
     have fz : But h0 (putB h' ri (.it l (p + (ru (l.drop p)).2))) none := f.over f1 (.inr fun z e => by cases e; exact h1)
     cases hm2 : mayC ((ru (l.drop p)).1 : Int) with
     | false =>
      rw [hm2, Bool.false_and] at e2
      rw [e2] at k
      rw [Bool.not_false, cd_t]
      exact fun _ => k _ (f0.trans fz)
     | true =>
      rw [hm2, Bool.true_and] at e2
      rw [Bool.not_true, cd_f]
      refine ih (p + (ru (l.drop p)).2) _ ri (by omega) (by omega) ?_ fz h1 h2 e1.symm e2.symm
      show (h'.mem.put ri _).get ri = _
      rw [T.get_put, if_pos rfl]
    ·rw [nx_f hg (by omega)]
     simp only [ex_t, List.getElem?_cons_zero, oP_some, cd_f]
     unfold F38_5
     rw [List.drop_eq_nil_of_le (by omega), wkS_nil] at hcp
     rw [← hcp] at k
     exact fun _ => k h' (f0.trans f)
  refine go 100000 0 _ h0.next (by omega) (by omega) ?_ (But.new _ _ _) (Nat.le_refl _) (Nat.lt_succ_self _) hv rfl
  show (h0.mem.put h0.next _).get h0.next = _
  rw [T.get_put, if_pos rfl]
end Go.Proofs.YtbkhielalbbopaaGreatDoor.Wb
