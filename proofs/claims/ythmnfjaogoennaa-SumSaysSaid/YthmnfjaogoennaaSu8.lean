/- Sums, whole and turned, are just as the chapter says: the walk. -/
import Derived.Test.YthmnfjaogoennaaSu7
set_option linter.unusedSimpArgs false
set_option linter.unusedVariables false
set_option linter.unusedSectionVars false
set_option linter.unnecessarySimpa false
set_option maxRecDepth 100000
namespace Go.Proofs.Ythmnfjaogoennaa.Wb
open Go.Am Go.Sum

theorem radd_ok {n : Nat} (hn : 1 ≤ n) {a b : Int} {h : H} {K : V → H → Prop} (hk : K (.i .i64 (addI a b)) h) : Ok Try.prog n 22 [.i .i64 a, .i .i64 b] h K := by
  obtain ⟨n, rfl⟩ := Nat.exists_eq_add_of_le' hn
  refine K22 fun _ => ?_
  simp (disch := omega) only [F22, ws]
  exact hk

theorem at16_ok {n : Nat} (hn : 1 ≤ n) {v : V} {bs : List UInt8} {k : Nat} {h : H} {K : V → H → Prop} (hb : BytesAt h v bs) (hk : k + 1 < bs.length) (hl : bs.length ≤ 1000000000) (hK : K (.i .i64 (((bs.getD k 0).toNat : Int) * 256 + ((bs.getD (k + 1) 0).toNat : Int))) h) : Ok Try.prog n 33 [v, .i .i64 (k : Nat)] h K := by
  obtain ⟨n, rfl⟩ := Nat.exists_eq_add_of_le' hn
  refine K33 fun _ => ?_
  have b1 := byt_lt bs k
  have b2 := byt_lt bs (k + 1)
  simp (disch := omega) only [F33]
  rw [bytes_get hb (i := k) rfl (by omega)]
  try simp (disch := omega) only [ws]
  rw [bytes_get hb (i := k + 1) (by omega) (by omega)]
  try simp (disch := omega) only [ws]
  exact hK

theorem rof_loop {n : Nat} (hn : 1 ≤ n) {v : V} {bs : List UInt8} {h : H} {K : V → H → Prop} (hb : BytesAt h v bs) (hl : bs.length ≤ 1000000000) : ∀ (fuel k s : Nat), bs.length + 2 < 2 * fuel + k → k % 2 = 0 → k ≤ bs.length + 1 → s ≤ 65535 → K (.i .i64 (65535 - (nrm (s + wsum (bs.drop k)) : Nat))) h →
    F21_10 pw xx (Ok Try.prog n) K fuel v (.i .i64 s) (.i .i64 k) h := by
  intro fuel
  induction fuel with
  | zero => intro k s h1 h2 h3; omega
  | succ fuel ih =>
    intro k s h1 h2 h3 h4 hk
    rw [S21_10]
    have b1 := byt_lt bs k
    by_cases hlt : k < bs.length
    · simp (disch := omega) only [ws, ls22 hb, dec_t, F21_14]
      rw [bytes_get hb (i := k) rfl (by omega)]
      try simp (disch := omega) only [ws]
      by_cases hlt2 : k + 1 < bs.length
      · have b2 := byt_lt bs (k + 1)
        have hd : decide ((k : Int) + 1 < bs.length) = true := decide_eq_true (by omega)
        simp (disch := omega) only [ws, ls22 hb, hd]
        rw [bytes_get hb (i := k + 1) (by omega) (by omega)]
        try simp (disch := omega) only [ws, F21_32]
        refine radd_ok hn ?_
        simp (disch := omega) only [ws, F21_18]
        have e : addI (s : Int) (((bs.getD k 0).toNat : Int) * 256 + ((bs.getD (k + 1) 0).toNat : Int)) = (nrm (s + ((bs.getD k 0).toNat * 256 + (bs.getD (k + 1) 0).toNat)) : Nat) := by
          rw [← addI_nrm _ _ (by omega) (by omega)]; push_cast; rfl
        rw [e]
        refine ih (k + 2) _ (by omega) (by omega) (by omega) (nrm_lt _) ?_
        rw [nrm_add, Nat.add_assoc, ← wsum_drop2 hlt2]
        exact hk
      · have hd : decide ((k : Int) + 1 < bs.length) = false := decide_eq_false (by omega)
        simp (disch := omega) only [ws, ls22 hb, hd, F21_32]
        refine radd_ok hn ?_
        simp (disch := omega) only [ws, F21_18]
        have e : addI (s : Int) (((bs.getD k 0).toNat : Int) * 256) = (nrm (s + (bs.getD k 0).toNat * 256) : Nat) := by
          rw [← addI_nrm _ _ (by omega) (by omega)]; push_cast; rfl
        rw [e]
        refine ih (k + 2) _ (by omega) (by omega) (by omega) (nrm_lt _) ?_
        rw [nrm_add, List.drop_eq_nil_of_le (by omega), show wsum [] = 0 from rfl, Nat.add_zero, ← wsum_drop1 (by omega)]
        exact hk
    · have le := nrm_lt (s + wsum (bs.drop k))
      simp (disch := omega) only [ws, ls22 hb, dec_f, F21_4]
      rw [List.drop_eq_nil_of_le (by omega), show wsum [] = 0 from rfl, Nat.add_zero, nrm_small h4] at hk
      exact hk

theorem rof_ok {n : Nat} (hn : 2 ≤ n) {v : V} {bs : List UInt8} {h : H} {K : V → H → Prop} (hb : BytesAt h v bs) (hl : bs.length < 190000) (hk : K (.i .i64 (sOf bs)) h) : Ok Try.prog n 21 [v] h K := by
  obtain ⟨n, rfl⟩ := Nat.exists_eq_add_of_le' hn
  refine K21 fun _ => ?_
  simp (disch := omega) only [F21]
  refine rof_loop (by omega) hb (by omega) 100000 0 0 (by omega) rfl (by omega) (by omega) ?_
  have := nrm_lt (wsum bs)
  rw [List.drop_zero, Nat.zero_add, show ((65535 : Int) - (nrm (wsum bs) : Nat)) = (sOf bs : Nat) by unfold sOf; omega]
  exact hk

theorem rturn_loop {n : Nat} (hn : 2 ≤ n) {v w : V} {a b : List UInt8} {h : H} {K : V → H → Prop} (ha : BytesAt h v a) (hb : BytesAt h w b) (hl : a.length ≤ 1000000000) (hab : a.length = b.length) (hev : a.length % 2 = 0) : ∀ (fuel k s : Nat), a.length < 2 * fuel + k → k % 2 = 0 → k ≤ a.length → s ≤ 65535 → K (.i .i64 (65535 - (turnL (a.drop k) (b.drop k) s : Nat))) h →
    F23_19 pw xx (Ok Try.prog n) K fuel v w (.i .i64 s) (.i .i64 k) h := by
  intro fuel
  induction fuel with
  | zero => intro k s h1 h2 h3; omega
  | succ fuel ih =>
    intro k s h1 h2 h3 h4 hk
    rw [S23_19]
    by_cases hlt : k < a.length
    · have b1 := byt_lt a k
      have b2 := byt_lt a (k + 1)
      have b3 := byt_lt b k
      have b4 := byt_lt b (k + 1)
      simp (disch := omega) only [ws, ls22 ha, dec_t, F23_24]
      refine at16_ok (by omega) ha (by omega) (by omega) ?_
      try simp (disch := omega) only [ws]
      refine radd_ok (by omega) ?_
      have e : addI (s : Int) (65535 - (((a.getD k 0).toNat : Int) * 256 + ((a.getD (k + 1) 0).toNat : Int))) = (nrm (s + (65535 - ((a.getD k 0).toNat * 256 + (a.getD (k + 1) 0).toNat))) : Nat) := by
        rw [← addI_nrm _ _ (by omega) (by omega)]
        congr 1; omega
      have le1 := nrm_lt (s + (65535 - ((a.getD k 0).toNat * 256 + (a.getD (k + 1) 0).toNat)))
      rw [e]
      refine at16_ok (by omega) hb (by omega) (by omega) ?_
      refine radd_ok (by omega) ?_
      have e2 : addI ((nrm (s + (65535 - ((a.getD k 0).toNat * 256 + (a.getD (k + 1) 0).toNat))) : Nat) : Int) (((b.getD k 0).toNat : Int) * 256 + ((b.getD (k + 1) 0).toNat : Int)) = (nrm (nrm (s + (65535 - ((a.getD k 0).toNat * 256 + (a.getD (k + 1) 0).toNat))) + ((b.getD k 0).toNat * 256 + (b.getD (k + 1) 0).toNat)) : Nat) := by
        exact Eq.trans (congrArg _ (by push_cast; rfl)) (addI_nrm _ ((b.getD k 0).toNat * 256 + (b.getD (k + 1) 0).toNat) le1 (by omega))
      rw [e2]
      try simp (disch := omega) only [ws, F23_29]
      refine ih (k + 2) _ (by omega) (by omega) (by omega) (nrm_lt _) ?_
      rw [← turnL_drop (by omega) (by omega)]
      exact hk
    · simp (disch := omega) only [ws, ls22 ha, dec_f, F23_13]
      rw [List.drop_eq_nil_of_le (by omega), List.drop_eq_nil_of_le (by omega)] at hk
      exact hk

theorem rturn_ok {n : Nat} (hn : 3 ≤ n) {s : Int} {v w : V} {a b : List UInt8} {h : H} {K : V → H → Prop} (ha : BytesAt h v a) (hb : BytesAt h w b) (hl : a.length < 190000) (hl2 : b.length < 190000) (hk : K (.i .i64 (turnI s a b)) h) : Ok Try.prog n 23 [.i .i64 s, v, w] h K := by
  obtain ⟨n, rfl⟩ := Nat.exists_eq_add_of_le' hn
  refine K23 fun hbd => ?_
  simp (disch := omega) only [F23, ws, ls22 ha, ls22 hb]
  unfold turnI at hk
  by_cases c1 : a.length = b.length
  · by_cases c2 : (a.length : Int) % 2 = 1
    · simp (disch := omega) only [ws, ls22 ha, ls22 hb, dec_t, dec_f, Bool.not_true, Bool.not_false]
      rw [if_pos (.inr (by omega))] at hk
      exact hk
    · simp (disch := omega) only [ws, ls22 ha, ls22 hb, dec_t, dec_f, Bool.not_true, Bool.not_false, F23_5]
      rw [if_neg (by omega)] at hk
      have e : (65535 : Int) - s % 65536 = ((65535 - s % 65536).toNat : Int) := by omega
      rw [e]
      exact rturn_loop (by omega) ha hb (by omega) c1 (by omega) 100000 0 _ (by omega) rfl (by omega) (by omega) (by simpa using hk)
  · simp (disch := omega) only [ws, ls22 ha, ls22 hb, dec_t, dec_f, Bool.not_true, Bool.not_false]
    rw [if_pos (.inl c1)] at hk
    exact hk

theorem says_ok {n : Nat} (hn : 7 ≤ n) {h : H} {v w u : V} {a b c : List UInt8} {s t : Int} (ha : BytesAt h v a) (hb : BytesAt h w b) (hc : BytesAt h u c) (hla : a.length ≤ 9223372036854775807) (hlb : b.length ≤ 9223372036854775807) (hlc : c.length ≤ 9223372036854775807) : Ok Try.prog n 9 [v, w, u, .i .i64 s, .i .i64 t] h (fun v _ => v = .b true) := by
  obtain ⟨n, rfl⟩ := Nat.exists_eq_add_of_le' hn
  refine K9 fun hbd => ?_
  simp (disch := omega) only [F9, ws]
  refine awake_ok (by omega) fun h1 hbd1 hbut => ?_
  replace ha : BytesAt h1 v a := ha.but hbd hbut (.inr rfl)
  replace hb : BytesAt h1 w b := hb.but hbd hbut (.inr rfl)
  replace hc : BytesAt h1 u c := hc.but hbd hbut (.inr rfl)
  simp (disch := omega) only [F9_7, ws, Bool.not_true, ls22 ha, ls22 hb, ls22 hc]
  by_cases c1 : 600 < (a.length : Int)
  · simp (disch := omega) only [ws, ls22 ha, ls22 hb, ls22 hc, dec_t, dec_f]
  by_cases c2 : 200 < (b.length : Int)
  · simp (disch := omega) only [ws, ls22 ha, ls22 hb, ls22 hc, dec_t, dec_f]
  by_cases c3 : 200 < (c.length : Int)
  · simp (disch := omega) only [ws, ls22 ha, ls22 hb, ls22 hc, dec_t, dec_f]
  simp (disch := omega) only [ws, ls22 ha, ls22 hb, ls22 hc, dec_t, dec_f, F9_13]
  refine copy_ok ha hbd1 (by omega) fun d h2 hv2 hb2 hq2 => ?_
  have hal := ha.lt hbd1
  have hbl := hb.lt hbd1
  have hcl := hc.lt hbd1
  refine ap_bytes hv2 (hb.keep hbl hb2 (.inr rfl)) (by omega) fun e h3 hv3 hb3 hq3 => ?_
  have h13 : But h1 h3 none := hb2.over hb3 (.inr fun r e => by
    obtain ⟨q, g1, g2, _⟩ := hq2
    rw [g1] at e; cases e; exact g2)
  have hbd3 := h13.2.2 hbd1
  have ha3 := ha.keep hal h13 (.inr rfl)
  have hb3' := hb.keep hbl h13 (.inr rfl)
  have hc3 := hc.keep hcl h13 (.inr rfl)
  refine of_ok (by omega) ha3 (by omega) ?_
  refine rof_ok (by omega) ha3 (by omega) ?_
  simp (disch := omega) only [ws, decide_true]
  have hva := bytes_cellsOf ha3
  have hvb := bytes_cellsOf hb3'
  rw [bs_ok (cs := [v, w]) (l := [(0, v), (1, w)]) tt47 rfl tt22 (by decide) (by simp only [placesArr, hva.1, hvb.1]; rfl) (by simp only [fillA, repl, hva.1, hvb.1]; rfl)]
  have hnw := But.new h3 (.c [v, w] 22 true) none
  refine many_ok (a := a) (b := b) (by omega) get_same (ha3.but hbd3 hnw (.inr rfl)) (hb3'.but hbd3 hnw (.inr rfl)) (by omega) fun h4 hbd4 hb4 => ?_
  have h34 := hnw.trans hb4
  have h14 := h13.trans h34
  have ha4 := ha.keep hal h14 (.inr rfl)
  have hb4' := hb.keep hbl h14 (.inr rfl)
  have hc4 := hc.keep hcl h14 (.inr rfl)
  have he := hv3.bytes.but hbd3 h34 (.inr rfl)
  try simp (disch := omega) only [ws]
  refine rof_ok (by omega) he (by simp; omega) ?_
  simp (disch := omega) only [ws, decide_true]
  refine add_ok (by omega) ?_
  try simp (disch := omega) only [ws]
  refine radd_ok (by omega) ?_
  simp (disch := omega) only [ws, decide_true]
  refine turn_ok (by omega) hb4' hc4 (by omega) (by omega) ?_
  try simp (disch := omega) only [ws]
  refine rturn_ok (by omega) hb4' hc4 (by omega) (by omega) ?_
  simp (disch := omega) only [ws, decide_true]
  refine fits_ok (by omega) ha4 (by omega) ?_
  try simp (disch := omega) only [ws]
  refine rof_ok (by omega) ha4 (by omega) ?_
  simp (disch := omega) only [ws, eq_b tt4 rfl rfl rfl]
  have e : decide (((sOf a : Nat) : Int) = 0) = decide (sOf a = 0) := by congr 1; exact propext ⟨fun h => by omega, fun h => by omega⟩
  rw [e]; simp
end Go.Proofs.Ythmnfjaogoennaa.Wb
