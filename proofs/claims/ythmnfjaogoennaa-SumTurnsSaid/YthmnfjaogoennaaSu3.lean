/- Pairs of bytes may stand in any order: the walk. -/
import Derived.Test.YthmnfjaogoennaaSu2
set_option linter.unusedSimpArgs false
set_option linter.unusedVariables false
set_option linter.unusedSectionVars false
set_option linter.unnecessarySimpa false
set_option maxRecDepth 100000
namespace Go.Proofs.Ythmnfjaogoennaa.Wb
open Go.Am Go.Sum

/-- append([]byte{}, w...) -/
theorem copy_ok {h : H} {w : V} {bs : List UInt8} (hb : BytesAt h w bs) (hbd : Bd h) (hl : bs.length ≤ 1000000) {κ : V → H → Prop} (K : ∀ v' h', Vec h' v' 5 1 (u8s bs) bs.length → But h h' none → (∃ q, vblk v' = some q ∧ h.next ≤ q ∧ q < h'.next) → κ v' h') :
    pw.bs xx 22 0 [] h (fun v1 h1 => pw.ap xx 22 22 v1 w h1 κ) := by
  rw [bs_ok tt22 rfl tt5 (by decide) rfl rfl]
  have hb1 : BytesAt ⟨h.next + 1, h.mem.put h.next (some (.c [] 5 true))⟩ w bs := hb.but hbd (But.new h _ none) (.inr rfl)
  have hf := bytes_cells (j := ⟨.int .u8, 1, 1, false, (some [.i]), [.i .u8 0], (.i .u8 0)⟩) hb1 rfl
  refine ap_vec (cells := []) (n := 0) tt22 rfl tt5 tt22 (by intro k e; cases e) hf.1 hf.2 ?_ (by rw [u8s_len, Nat.mul_one]) (u8s_one bs) (by unfold most; simp; omega) (by unfold most; omega) ?_
  · exact ⟨rfl, .inr ⟨h.next, 0, false, [], rfl, get_same, Nat.le_refl _, rfl, rfl⟩⟩
  · intro v' h' h1 h2 h3
    rw [List.nil_append, Nat.zero_add] at h1
    have hn := But.new h (.c [] 5 true) none
    refine K v' h' h1 (hn.over h2 (.inr fun r e => by cases e; exact Nat.le_refl _)) ?_
    rcases h3 with h3 | ⟨h3, h4⟩
    · exact ⟨h.next, h3, Nat.le_refl _, h2.1⟩
    · exact ⟨_, h3, Nat.le_succ _, h4⟩

theorem order_ok {n : Nat} (hn : 6 ≤ n) {h : H} {v : V} {bs : List UInt8} {i k : Int} (hb : BytesAt h v bs) (hl : bs.length ≤ 9223372036854775807) : Ok Try.prog n 3 [v, .i .i64 i, .i .i64 k] h (fun v _ => v = .b true) := by
  obtain ⟨n, rfl⟩ := Nat.exists_eq_add_of_le' hn
  refine K3 fun hbd => ?_
  simp (disch := omega) only [F3, ws]
  refine awake_ok (by omega) fun h1 hbd1 hbut => ?_
  replace hb : BytesAt h1 v bs := hb.but hbd hbut (.inr rfl)
  simp (disch := omega) only [F3_5, ws, Bool.not_true, ls22 hb]
  by_cases c1 : 400 < (bs.length : Int)
  · simp (disch := omega) only [ws, ls22 hb, dec_t, dec_f]
  by_cases c2 : i < 0
  · simp (disch := omega) only [ws, ls22 hb, dec_t, dec_f]
  by_cases c3 : k < 0
  · simp (disch := omega) only [ws, ls22 hb, dec_t, dec_f]
  by_cases c4 : 400 < i
  · simp (disch := omega) only [ws, ls22 hb, dec_t, dec_f]
  by_cases c5 : 400 < k
  · simp (disch := omega) only [ws, ls22 hb, dec_t, dec_f]
  by_cases c6 : (bs.length : Int) - 2 < 2 * i
  · simp (disch := omega) only [ws, ls22 hb, dec_t, dec_f]
  by_cases c7 : (bs.length : Int) - 2 < 2 * k
  · simp (disch := omega) only [ws, ls22 hb, dec_t, dec_f]
  simp (disch := omega) only [ws, ls22 hb, dec_t, dec_f, F3_9]
  refine copy_ok hb hbd1 (by omega) fun c h2 hv hb2 hq => ?_
  have hvl := hb.lt hbd1
  have hne := lt_ne hvl ⟨hq.choose, hq.choose_spec.1, hq.choose_spec.2.1⟩
  replace hb : BytesAt h2 v bs := hb.but hbd1 hb2 (.inr rfl)
  obtain ⟨i, rfl⟩ := Int.eq_ofNat_of_zero_le (show 0 ≤ i by omega)
  obtain ⟨k, rfl⟩ := Int.eq_ofNat_of_zero_le (show 0 ≤ k by omega)
  rw [bytes_get hb (i := 2 * k) (by omega) (by omega)]
  rw [bytes_get hb (i := 2 * k + 1) (by omega) (by omega)]
  rw [bytes_get hb (i := 2 * i) (by omega) (by omega)]
  rw [bytes_get hb (i := 2 * i + 1) (by omega) (by omega)]
  refine bytes_set hv (i := 2 * i) (by omega) (by omega) rfl fun h3 hv hb3 => ?_
  refine bytes_set hv (i := 2 * i + 1) (by omega) (by simp; omega) rfl fun h4 hv hb4 => ?_
  refine bytes_set hv (i := 2 * k) (by omega) (by simp; omega) rfl fun h5 hv hb5 => ?_
  refine bytes_set hv (i := 2 * k + 1) (by omega) (by simp; omega) rfl fun h6 hv hb6 => ?_
  have hbut := ((hb3.trans hb4).trans hb5).trans hb6
  replace hb := hb.keep (fun q hq => Nat.lt_of_lt_of_le (hvl q hq) hb2.1) hbut (.inl hne)
  refine of_ok (by omega) hb (by omega) ?_
  refine of_ok (by omega) hv.bytes (by simp; omega) ?_
  simp (disch := omega) only [ws]
  rw [show sOf ((((bs.set (2 * i) (bs.getD (2 * k) 0)).set (2 * i + 1) (bs.getD (2 * k + 1) 0)).set (2 * k) (bs.getD (2 * i) 0)).set (2 * k + 1) (bs.getD (2 * i + 1) 0)) = sOf bs by
    unfold sOf; rw [wsum_swap (by omega) (by omega)]]
  simp
end Go.Proofs.Ythmnfjaogoennaa.Wb
