/- Numbers of digits: written by the reference, read by the program. -/
import Derived.Test.YtbkhielalbbopaaGreatDoorYp1
set_option linter.unusedSimpArgs false
set_option linter.unusedVariables false
set_option linter.unusedSectionVars false
set_option linter.unnecessarySimpa false
set_option maxRecDepth 100000
namespace Go.Proofs.YtbkhielalbbopaaGreatDoor.Wb
open Go Go.Am Go.Am.Xm

theorem cs_bs {r : Nat} {bs : Bs} {h : H} {κ : V → Prop} (hg : h.mem.get r = some (.c (u8s bs) 5 true)) : pw.cs (mkX Tryz.prog) 60 9 (.sl r 0 bs.length bs.length false) h κ = κ (.s bs) := by
  have hs : sub (u8s bs) 0 bs.length = some (u8s bs) := by
    rw [sub_mk (by simp [u8s]), List.drop_zero, List.take_of_length_le (by simp [u8s])]
  simp only [pw, rdVw, ti_some _ tt60, ti_some _ tt9, ti_some _ tt5, hg, hs, bytesOf_u8s, oP]
theorem againV {en : T B} {h : H} {ix r : Nat} {bs : Bs} (hg : (bif Nat.blt r h.next then h.mem.get r else en.get r) = some (.c (u8s bs) 5 true)) : againW en ⟨ix, rdVw (mkX Tryz.prog) 60 9 (.sl r 0 bs.length bs.length false), .s bs⟩ h = true := by
  have hs : sub (u8s bs) 0 bs.length = some (u8s bs) := by
    rw [sub_mk (by simp [u8s]), List.drop_zero, List.take_of_length_le (by simp [u8s])]
  unfold againW
  have e : rdVw (mkX Tryz.prog) 60 9 (.sl r 0 bs.length bs.length false) (fun k => bif Nat.blt k h.next then h.mem.get k else en.get k) = some (.s bs) := by
    simp only [rdVw, ti_some _ tt60, ti_some _ tt9, ti_some _ tt5, hg, hs, bytesOf_u8s]
  show (match rdVw (mkX Tryz.prog) 60 9 (.sl r 0 bs.length bs.length false) (fun k => bif Nat.blt k h.next then h.mem.get k else en.get k) with | some a => sameV a (.s bs) | none => false) = true
  rw [e]
  exact sameV_rflW _
theorem blt_no {a b : Nat} (h : b ≤ a) : Nat.blt a b = false := by
  cases e : Nat.blt a b with
  | false => rfl
  | true => have := Nat.le_of_ble_eq_true e; omega
theorem bs1_ok {h : H} {κh : V → H → Prop} {c : UInt8} (k : κh (.sl h.next 0 1 1 false) ⟨h.next + 1, h.mem.put h.next (some (.c (u8s [c]) 5 true))⟩) : pw.bs (mkX Tryz.prog) 60 1 [(0, .i .u8 (c.toNat : Int))] h κh := by
  rw [bs_ok (l := [(0, .i .u8 (c.toNat : Int))]) (cs := u8s [c]) tt60 rfl tt5 (by decide) rfl rfl]
  exact k

/-- A digit. -/
def dg (n : Nat) : UInt8 := UInt8.ofNat (48 + n)
theorem dg_nat {n : Nat} (h : n < 10) : (dg n).toNat = 48 + n := by
  unfold dg
  rw [UInt8.toNat_ofNat']
  omega
/-- A number's digits. -/
def digs (n : Nat) : Bs := if n < 10 then [dg n] else digs (n / 10) ++ [dg (n % 10)]
theorem digs_lo {n : Nat} (h : n < 10) : digs n = [dg n] := by rw [digs, if_pos h]
theorem digs_hi {n : Nat} (h : 10 ≤ n) : digs n = digs (n / 10) ++ [dg (n % 10)] := by rw [digs, if_neg (by omega)]

theorem dg_ad {n : Nat} (h : n < 10) {κ : V → Prop} : (pw.ad (mkX Tryz.prog) 2 (.i .i64 48) (.i .i64 (n : Int)) fun v => pw.ci (mkX Tryz.prog) 2 5 .u8 v κ) = κ (.i .u8 ((dg n).toNat : Int)) := by
  rw [ad_64 (by omega), ci_u8 (by omega), dg_nat h]
  congr 2

theorem digs_len : ∀ (k n : Nat), n < 10 ^ (k + 1) → (digs n).length ≤ k + 1
  | 0, n, h => by rw [digs_lo (by omega)]; simp
  | k + 1, n, h => by
    by_cases hn : n < 10
    · rw [digs_lo hn]; simp
    · rw [digs_hi (by omega), List.length_append]
      have := digs_len k (n / 10) (by rw [Nat.pow_succ] at h; omega)
      simp; omega

/-- The reference's number. -/
theorem rtext_ok : ∀ (k : Nat) {n : Nat}, k + 1 ≤ n → ∀ (m : Nat), m < 10 ^ (k + 1) → m < 1000000000000 → k < 20 → ∀ {h : H} {K : V → H → Prop}, (∀ h', But h h' none → K (.s (digs m)) h') → Ok Tryz.prog n 18 [.i .i64 m] h K
  | k, 0, hn, _, _, _, _, _, _, _ => by omega
  | k, n + 1, hn, m, hm, hb, hk20, h, K, hk => by
    refine Ok.bd (K18 fun hbd => ?_)
    unfold F18
    rw [lt_i, decide_eq_false (show ¬ (m : Int) < 0 by omega), cd_f]
    unfold F18_3
    rw [lt_i]
    by_cases h10 : m < 10
    · rw [decide_eq_true (show (m : Int) < 10 by omega), cd_t, dg_ad h10]
      refine bs1_ok ?_
      have fa : But h ⟨h.next + 1, h.mem.put h.next (some (.c (u8s [dg m]) 5 true))⟩ none := But.new _ _ _
      have ga : (⟨h.next + 1, h.mem.put h.next (some (.c (u8s [dg m]) 5 true))⟩ : H).mem.get h.next = some (.c (u8s [dg m]) 5 true) := get_same
      generalize (⟨h.next + 1, h.mem.put h.next (some (.c (u8s [dg m]) 5 true))⟩ : H) = g1 at fa ga ⊢
      rw [show pw.cs (mkX Tryz.prog) 60 9 (.sl h.next 0 1 1 false) g1 = fun κ => κ (.s [dg m]) from funext fun κ => cs_bs (bs := [dg m]) ga]
      rw [digs_lo h10] at hk
      exact fun _ => hk g1 fa
    · rw [decide_eq_false (show ¬ (m : Int) < 10 by omega), cd_f]
      unfold F18_5
      obtain ⟨k, rfl⟩ : ∃ j, k = j + 1 := ⟨k - 1, by
        cases k with
        | zero => simp at hm; omega
        | succ k => omega⟩
      rw [qu_64 (by omega), show (m : Int) / 10 = ((m / 10 : Nat) : Int) by omega]
      try simp only [cf_k]
      have hl := digs_len k (m / 10) (by rw [Nat.pow_succ] at hm; omega)
      refine rtext_ok k (by omega) (m / 10) (by rw [Nat.pow_succ] at hm; omega) (by omega) (by omega) fun h1 f1 => ?_
      rw [re_64 (by omega), show (m : Int) % 10 = ((m % 10 : Nat) : Int) by omega, dg_ad (by omega)]
      refine bs1_ok ?_
      have fc : But h1 ⟨h1.next + 1, h1.mem.put h1.next (some (.c (u8s [dg (m % 10)]) 5 true))⟩ none := But.new _ _ _
      have gc : (⟨h1.next + 1, h1.mem.put h1.next (some (.c (u8s [dg (m % 10)]) 5 true))⟩ : H).mem.get h1.next = some (.c (u8s [dg (m % 10)]) 5 true) := get_same
      generalize (⟨h1.next + 1, h1.mem.put h1.next (some (.c (u8s [dg (m % 10)]) 5 true))⟩ : H) = g3 at fc gc ⊢
      rw [show pw.cs (mkX Tryz.prog) 60 9 (.sl h1.next 0 1 1 false) g3 = fun κ => κ (.s [dg (m % 10)]) from funext fun κ => cs_bs (bs := [dg (m % 10)]) gc]
      dsimp only
      rw [ad_s (by simp; omega)]
      have e1 : (enCw h1 g3 .l).get h1.next = some (.c (u8s [dg (m % 10)]) 5 true) := by
        show ((T.l.put h1.next (g3.mem.get h1.next))).get h1.next = _
        rw [T.get_put, if_pos rfl, gc]
      refine ck_ok (fun r hr => ?_) ?_
      · simp only [List.mem_cons, List.not_mem_nil, or_false] at hr
        subst hr
        refine ⟨againV (bs := [dg (m % 10)]) (by rw [blt_no f1.1, cond_false, e1]), fun p hp => ?_⟩
        simp only [List.mem_cons, List.not_mem_nil, or_false] at hp
        subst hp
        exact againV (bs := [dg (m % 10)]) (by rw [blt_no (Nat.le_refl _), cond_false, e1])
      · rw [digs_hi (by omega)] at hk
        exact fun _ => hk g3 (f1.trans fc)

theorem dg_in {n : Nat} (h : n < 10) : inS [48, 49, 50, 51, 52, 53, 54, 55, 56, 57] (dg n) = true ∧ inS [32, 9, 10, 13] (dg n) = false := by
  have : ∀ n, n < 10 → inS [48, 49, 50, 51, 52, 53, 54, 55, 56, 57] (dg n) = true ∧ inS [32, 9, 10, 13] (dg n) = false := by decide
  exact this n h
theorem digs_mem : ∀ (k n : Nat), n < 10 ^ (k + 1) → ∀ c ∈ digs n, ∃ m, m < 10 ∧ c = dg m
  | 0, n, h => by
    rw [digs_lo (by omega)]
    intro c hc
    simp at hc
    exact ⟨n, by omega, hc⟩
  | k + 1, n, h => by
    by_cases hn : n < 10
    · rw [digs_lo hn]
      intro c hc
      simp at hc
      exact ⟨n, hn, hc⟩
    · rw [digs_hi (by omega)]
      intro c hc
      rcases List.mem_append.1 hc with hc | hc
      · exact digs_mem k (n / 10) (by rw [Nat.pow_succ] at h; omega) c hc
      · simp at hc
        exact ⟨n % 10, by omega, hc⟩
theorem digs_ne (n : Nat) : digs n ≠ [] := by
  by_cases hn : n < 10
  · rw [digs_lo hn]; simp
  · rw [digs_hi (by omega)]; simp

/-- What digits come to, from a number on. -/
def valD (acc : Nat) (l : Bs) : Nat := l.foldl (fun acc a => 10 * acc + (a.toNat - 48)) acc
theorem valD_nil (acc : Nat) : valD acc [] = acc := List.foldl_nil
theorem valD_cons (acc : Nat) (a : UInt8) (l : Bs) : valD acc (a :: l) = valD (10 * acc + (a.toNat - 48)) l := List.foldl_cons ..
theorem valD_app (a b : Bs) (acc : Nat) : valD acc (a ++ b) = valD (valD acc a) b := List.foldl_append ..
theorem valD_digs : ∀ (k n : Nat), n < 10 ^ (k + 1) → valD 0 (digs n) = n
  | 0, n, h => by
    rw [digs_lo (by omega), valD_cons, valD_nil, dg_nat (by omega)]; omega
  | k + 1, n, h => by
    by_cases hn : n < 10
    · rw [digs_lo hn, valD_cons, valD_nil, dg_nat hn]; omega
    · rw [digs_hi (by omega), valD_app, valD_digs k (n / 10) (by rw [Nat.pow_succ] at h; omega), valD_cons, valD_nil, dg_nat (by omega)]; omega

theorem mu_u64 {t : TypeId} {m n : Int} {κ : V → Prop} (h : 0 ≤ m * n ∧ m * n < 18446744073709551616) : pw.mu (mkX Tryz.prog) t (.i .u64 m) (.i .u64 n) κ = κ (.i .u64 (m * n)) := by
  rw [mu_i, wrap_u64', Int.emod_eq_of_lt h.1 h.2]
theorem ad_u64 {t : TypeId} {m n : Int} {κ : V → Prop} (h : 0 ≤ m + n ∧ m + n < 18446744073709551616) : pw.ad (mkX Tryz.prog) t (.i .u64 m) (.i .u64 n) κ = κ (.i .u64 (m + n)) := by
  rw [ad_i, wrap_u64', Int.emod_eq_of_lt h.1 h.2]
theorem cb_s {h : H} {l : Bs} {κ : V → H → Prop} : pw.cb (mkX Tryz.prog) 9 60 (.s l) h κ = κ (.sl h.next 0 l.length l.length true) ⟨h.next + 1, h.mem.put h.next (some (.c (u8s l) 5 true))⟩ := by
  simp only [pw]
  rw [ti_some _ tt9, ti_some _ tt60]
  simp only
  rw [ti_some _ tt5]
  rfl

/-- Digits read, one by one: below a bound. -/
theorem pdl_ok {n : Nat} {d : Bs} {v : V} {h : H} {K : V → H → Prop} (hd : ∀ c ∈ d, ∃ m, m < 10 ∧ c = dg m) (hl : d.length ≤ 12) (hv : BytesAt h v d)
    (k : K (.t [.i .u64 (valD 0 d), .ni]) h) :
    ∀ (rest : Bs) (i acc fuel : Nat), d.drop i = rest → rest.length < fuel → acc < 10 ^ i → i ≤ d.length → valD 0 d = valD acc rest →
      F150_67 pw (mkX Tryz.prog) (Ok Tryz.prog n) K fuel (.i .i64 10) (.b false) (.s d) (.i .u64 1844674407370955162) (.i .u64 18446744073709551615) (.b false) (.i .u64 acc) v (.i .i64 d.length) (.i .i64 i) h := by
  intro rest
  induction rest with
  | nil =>
    intro i acc fuel hr hf ha hi hn
    obtain ⟨m, rfl⟩ : ∃ m, fuel = m + 1 := ⟨fuel - 1, by simp at hf; omega⟩
    rw [S150_67]
    have : d.length ≤ i := List.drop_eq_nil_iff.1 hr
    rw [lt_i, decide_eq_false (show ¬ (i : Int) < (d.length : Int) by omega), cd_f]
    unfold F150_42
    simp only [g1_f, pk_f, cd_f]
    unfold F150_46
    rw [hn] at k
    exact k
  | cons b rest ih =>
    intro i acc fuel hr hf ha hi hn
    obtain ⟨m, rfl⟩ : ∃ m, fuel = m + 1 := ⟨fuel - 1, by simp at hf; omega⟩
    rw [S150_67]
    have hlt : i < d.length := by
      rcases Nat.lt_or_ge i d.length with h | h
      · exact h
      · rw [List.drop_eq_nil_of_le h] at hr; cases hr
    have hbi : d.getD i 0 = b := by
      rw [List.drop_eq_getElem_cons hlt] at hr
      rw [List.getD_eq_getElem?_getD, List.getElem?_eq_getElem hlt, Option.getD_some]
      exact (List.cons.inj hr).1
    have hmem : b ∈ d := List.mem_of_mem_drop (i := i) (l := d) (a := b) (by rw [hr]; exact List.mem_cons_self ..)
    obtain ⟨z, hz, rfl⟩ := hd b hmem
    have hr2 : d.drop (i + 1) = rest := by
      rw [List.drop_eq_getElem_cons hlt] at hr
      exact (List.cons.inj hr).2
    have hpow : 10 ^ i ≤ 10 ^ 11 := Nat.pow_le_pow_right (by decide) (by omega)
    have hp11 : (10 : Nat) ^ 11 = 100000000000 := by decide
    rw [lt_i, decide_eq_true (show (i : Int) < (d.length : Int) by omega), cd_t]
    unfold F150_79
    rw [bytes_get hv rfl hlt, hbi, dg_nat hz, eq_i, decide_eq_false (show ¬ (((48 + z : Nat) : Int) = 95) by omega)]
    simp only [g1_f, pk_f, cd_f]
    rw [le_i, decide_eq_true (show (48 : Int) ≤ ((48 + z : Nat) : Int) by omega)]
    simp only [g1_t]
    rw [le_i, decide_eq_true (show ((48 + z : Nat) : Int) ≤ 57 by omega)]
    simp only [pk_t, cd_t]
    rw [sb_u8 (by omega), show ((48 + z : Nat) : Int) - 48 = (z : Int) by omega]
    unfold F150_107
    rw [ci_u8 (by decide), ge_i, decide_eq_false (show ¬ (10 : Int) ≤ (z : Int) by omega), cd_f]
    unfold F150_119
    rw [ge_i, decide_eq_false (show ¬ (1844674407370955162 : Int) ≤ (acc : Int) by omega), cd_f]
    unfold F150_131
    rw [ci_u64 (by decide), mu_u64 (by omega), ci_u64 (by omega), ad_u64 (by omega), lt_i, decide_eq_false (show ¬ ((acc : Int) * 10 + z < (acc : Int) * 10) by omega)]
    simp only [g0_f]
    rw [gt_i, decide_eq_false (show ¬ ((18446744073709551615 : Int) < (acc : Int) * 10 + z) by omega)]
    simp only [pk_f, cd_f]
    unfold F150_153
    unfold F150_90
    rw [ad_64 (by omega), show (i : Int) + 1 = ((i + 1 : Nat) : Int) by omega, show (acc : Int) * 10 + z = ((10 * acc + z : Nat) : Int) by omega]
    refine ih (i + 1) (10 * acc + z) m hr2 (by simp only [List.length_cons] at hf; omega) (by rw [Nat.pow_succ]; omega) (by omega) ?_
    rw [hn, valD_cons, dg_nat hz, show 48 + z - 48 = z by omega]

/-- ParseInt of digits. -/
theorem pint_ok {n : Nat} (hn : 4 ≤ n) {d : Bs} (hd : ∀ c ∈ d, ∃ m, m < 10 ∧ c = dg m) (h0 : d ≠ []) (hl : d.length ≤ 12) (hv : valD 0 d < 1000000000000) {h : H} {K : V → H → Prop} (k : ∀ h', But h h' none → K (.t [.i .i64 (valD 0 d), .ni]) h') : Ok Tryz.prog n 100 [.s d, .i .i64 10, .i .i64 64] h K := by
  obtain ⟨n, rfl⟩ := Nat.exists_eq_add_of_le' hn
  refine Ok.bd (K100 fun hbd => ?_)
  unfold F100
  rw [cf_k]
  refine Ok.bd (K130 fun hbd => ?_)
  unfold F130
  have hne : (d == ([] : Bs)) = false := by simpa using h0
  rw [eq_s, hne, cd_f]
  unfold F130_6
  obtain ⟨a, t, rfl⟩ : ∃ a t, d = a :: t := by
    cases d with
    | nil => exact absurd rfl h0
    | cons a t => exact ⟨a, t, rfl⟩
  obtain ⟨z, hz, e⟩ := hd a (List.mem_cons_self ..)
  have i0 : ∀ κ : V → Prop, pw.ix (mkX Tryz.prog) 9 (.s (a :: t)) (.i .i64 0) κ = κ (.i .u8 a.toNat) := fun κ => ix_s tt9 rfl (n := 0) rfl
  have ha : a.toNat = 48 + z := by rw [e, dg_nat hz]
  rw [i0, eq_i, decide_eq_false (show ¬ ((a.toNat : Int) = 43) by omega), cd_f, eq_i, decide_eq_false (show ¬ ((a.toNat : Int) = 45) by omega), cd_f]
  unfold F130_11
  rw [cf_k]
  generalize a :: t = d at hd h0 hl hv hne k
  refine Ok.bd (K150 fun hbd => ?_)
  unfold F150
  rw [eq_s, hne, cd_f]
  unfold F150_6
  rw [eq_i, decide_eq_false (show ¬ ((10 : Int) = 0) by decide), le_i, decide_eq_true (show (2 : Int) ≤ 10 by decide)]
  simp only [g1_t]
  rw [le_i, decide_eq_true (show (10 : Int) ≤ 36 by decide)]
  simp only [pk_t, cd_t]
  unfold F150_15
  rw [eq_i, decide_eq_false (show ¬ ((64 : Int) = 0) by decide), cd_f, lt_i, decide_eq_false (show ¬ ((64 : Int) < 0) by decide)]
  simp only [g0_f]
  rw [gt_i, decide_eq_false (show ¬ ((64 : Int) < 64) by decide)]
  simp only [pk_f, cd_f]
  unfold F150_21
  rw [eq_i, decide_eq_true (show (10 : Int) = 10 from rfl), cd_t]
  unfold F150_28
  have s1 : ∀ κ : V → Prop, pw.sl (mkX Tryz.prog) 177 (.i .u64 1) (.i .u64 64) κ = κ (.i .u64 0) := fun κ => by
    rw [sl_i (by decide)]
    rfl
  have s2 : ∀ κ : V → Prop, pw.sb (mkX Tryz.prog) 177 (.i .u64 0) (.i .u64 1) κ = κ (.i .u64 18446744073709551615) := fun κ => by
    rw [sb_i]
    rfl
  rw [ci_u64 (by decide), s1, s2, cb_s, ls_sl tt60 rfl]
  have hv' : BytesAt ⟨h.next + 1, h.mem.put h.next (some (.c (u8s d) 5 true))⟩ (.sl h.next 0 d.length d.length true) d := by
    refine Vec.bytes (el := 5) (n := d.length) ⟨by simp [u8s], .inr ⟨h.next, d.length, true, u8s d, rfl, ?_, Nat.le_refl _, by simp [u8s], by rw [Nat.mul_one, ← u8s_len d, List.take_length]⟩⟩
    show (h.mem.put h.next _).get h.next = _
    rw [T.get_put, if_pos rfl]
  refine pdl_ok hd hl hv' ?_ d 0 0 100000 rfl (by omega) (by simp) (by omega) rfl
  intro _
  simp only [ex_t, List.getElem?_cons_zero, List.getElem?_cons_succ, oP_some]
  rw [bn_nn tt142 rfl]
  simp only [g1_f, pk_f, cd_f]
  unfold F130_26
  rw [eq_i, decide_eq_false (show ¬ ((64 : Int) = 0) by decide), cd_f]
  unfold F130_30
  have t1 : ∀ κ : V → Prop, pw.sl (mkX Tryz.prog) 177 (.i .u64 1) (.i .u64 63) κ = κ (.i .u64 9223372036854775808) := fun κ => by
    rw [sl_i (by decide)]
    rfl
  rw [sb_64 (by decide), show (64 : Int) - 1 = 63 from rfl, ci_u64 (by decide), t1]
  simp only [nt_b, Bool.not_false, g1_t]
  rw [ge_i, decide_eq_false (show ¬ ((9223372036854775808 : Int) ≤ ((valD 0 d : Nat) : Int)) by omega)]
  simp only [pk_t, cd_f]
  unfold F130_39
  simp only [g1_f, pk_f, cd_f]
  unfold F130_43
  rw [ci_64 (by omega), cd_f]
  unfold F130_49
  intro _
  simp only [ex_t, List.getElem?_cons_zero, List.getElem?_cons_succ, oP_some]
  rw [bn_nn tt142 rfl, cd_f]
  unfold F100_15
  exact fun _ => k _ (But.new _ _ _)
end Go.Proofs.YtbkhielalbbopaaGreatDoor.Wb
