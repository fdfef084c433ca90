/- Sums of two texts, of noughts behind: the walk. -/
import Derived.Test.YthmnfjaogoennaaSu4
set_option linter.unusedSimpArgs false
set_option linter.unusedVariables false
set_option linter.unusedSectionVars false
set_option linter.unnecessarySimpa false
set_option maxRecDepth 100000
namespace Go.Sum
theorem wsum_app : ∀ {a : List UInt8} (b : List UInt8), a.length % 2 = 0 → wsum (a ++ b) = wsum a + wsum b
  | [], b, _ => by simp [wsum]
  | [_], b, h => by simp at h
  | x :: y :: l, b, h => by
    rw [List.cons_append, List.cons_append, wsum_cons2, wsum_cons2, wsum_app b (by simp at h; omega)]; omega
theorem wsum_pad : ∀ {b : List UInt8}, b.length % 2 = 1 → wsum (b ++ [0]) = wsum b
  | [], h => by simp at h
  | [x], _ => by simp [wsum]
  | x :: y :: l, h => by
    rw [List.cons_append, List.cons_append, wsum_cons2, wsum_cons2, wsum_pad (by simp at h; omega)]
theorem wsum_zeros : ∀ n, wsum (List.replicate n 0) = 0
  | 0 => rfl
  | 1 => rfl
  | n + 2 => by
    show wsum (0 :: 0 :: List.replicate n 0) = 0
    rw [wsum_cons2, wsum_zeros n]; rfl
end Go.Sum
namespace Go.Proofs.Ythmnfjaogoennaa.Wb
open Go.Am Go.Sum

/-- append of bytes onto bytes that have a block of their own. -/
theorem ap_bytes {h : H} {u w : V} {us ws : List UInt8} (hv : Vec h u 5 1 (u8s us) us.length) (hb : BytesAt h w ws) (hl : us.length + ws.length ≤ 1000000) {κ : V → H → Prop}
    (K : ∀ v' h', Vec h' v' 5 1 (u8s (us ++ ws)) (us ++ ws).length → But h h' (vblk u) → (vblk v' = vblk u ∨ (vblk v' = some h.next ∧ h.next < h'.next)) → κ v' h') : pw.ap xx 22 22 u w h κ := by
  have hf := bytes_cells (j := ⟨.int .u8, 1, 1, false, (some [.i]), [.i .u8 0], (.i .u8 0)⟩) hb rfl
  refine ap_vec tt22 rfl tt5 tt22 (by intro k e; cases e) hf.1 hf.2 hv (by rw [u8s_len, Nat.mul_one]) (u8s_one ws) (by unfold most; simp; omega) (by unfold most; omega) ?_
  intro v' h' h1 h2 h3
  rw [← u8s_app, ← List.length_append] at h1
  exact K v' h' h1 h2 h3

theorem many_ok {n : Nat} (hn : 4 ≤ n) {h : H} {r : Nat} {x0 x1 : V} {a b : List UInt8} {ty : TypeId} {w : Bool} (hr : h.mem.get r = some (.c [x0, x1] ty w)) (h0 : BytesAt h x0 a) (h1 : BytesAt h x1 b) (hl : a.length + b.length < 100000) {K : V → H → Prop}
    (hk : ∀ h', Bd h' → But h h' none → K (.i .i64 (sOf (a ++ b))) h') : Ok Try.prog n 19 [.sl r 0 2 2 false] h K := by
  obtain ⟨n, rfl⟩ := Nat.exists_eq_add_of_le' hn
  refine Ok.bd (K19 fun hbd => ?_)
  simp (disch := omega) only [F19, ws, ls_sl tt47 rfl]
  rw [S19_12]
  simp (disch := omega) only [F19_18, ws, dec_t, Int.toNat_zero, Nat.add_zero, hr, List.getElem?_cons_zero]
  refine ap_bytes (us := []) ⟨rfl, .inl ⟨rfl, rfl⟩⟩ h0 (by simp; omega) fun v1 h2 hv1 hb1 hq1 => ?_
  have hrl := hbd _ _ hr
  have hl1 := h1.lt hbd
  replace hb1 : But h h2 none := hb1
  replace hq1 : vblk v1 = none ∨ (vblk v1 = some h.next ∧ h.next < h2.next) := hq1
  replace hr := hb1.get hrl (by simp) hr
  replace h1 := h1.keep hl1 hb1 (.inr rfl)
  rw [List.nil_append] at hv1
  simp (disch := omega) only [F19_23, ws]
  rw [S19_12]
  simp (disch := omega) only [F19_18, ws, dec_t, Int.zero_add, Int.toNat_one, Nat.zero_add, hr, List.getElem?_cons_succ, List.getElem?_cons_zero]
  refine ap_bytes hv1 h1 (by omega) fun v2 h3 hv2 hb2 hq2 => ?_
  simp (disch := omega) only [F19_23, ws]
  rw [S19_12]
  simp (disch := omega) only [ws, dec_f, F19_4]
  refine of_ok (by omega) hv2.bytes (by simp; omega) ?_
  intro hbd3
  refine hk _ hbd3 (hb1.over hb2 (.inr fun r e => ?_))
  rcases hq1 with hq1 | ⟨hq1, _⟩
  · rw [hq1] at e; cases e
  · rw [hq1] at e; cases e; exact Nat.le_refl _

theorem inv_nrm (x y : Nat) : (65535 : Int) - addI (65535 - ((65535 - nrm x : Nat) : Int)) (65535 - ((65535 - nrm y : Nat) : Int)) = ((65535 - nrm (x + y) : Nat) : Int) := by
  have h1 := nrm_lt x
  have h2 := nrm_lt y
  have h3 := nrm_lt (x + y)
  rw [show (65535 : Int) - ((65535 - nrm x : Nat) : Int) = (nrm x : Nat) by omega, show (65535 : Int) - ((65535 - nrm y : Nat) : Int) = (nrm y : Nat) by omega, addI_nrm _ _ h1 h2, nrm_add, nrm_add']
  omega

theorem pairs_ok {n : Nat} (hn : 7 ≤ n) {h : H} {v w : V} {a b : List UInt8} {m : Int} (ha : BytesAt h v a) (hb : BytesAt h w b) (hla : a.length ≤ 9223372036854775807) (hlb : b.length ≤ 9223372036854775807) : Ok Try.prog n 6 [v, w, .i .i64 m] h (fun v _ => v = .b true) := by
  obtain ⟨n, rfl⟩ := Nat.exists_eq_add_of_le' hn
  refine K6 fun hbd => ?_
  simp (disch := omega) only [F6, ws]
  refine awake_ok (by omega) fun h1 hbd1 hbut => ?_
  replace ha : BytesAt h1 v a := ha.but hbd hbut (.inr rfl)
  replace hb : BytesAt h1 w b := hb.but hbd hbut (.inr rfl)
  simp (disch := omega) only [F6_5, ws, Bool.not_true, ls22 ha, ls22 hb]
  by_cases c1 : (a.length : Int) % 2 = 1
  · simp (disch := omega) only [ws, ls22 ha, ls22 hb, dec_t, dec_f]
  by_cases c2 : 300 < (a.length : Int)
  · simp (disch := omega) only [ws, ls22 ha, ls22 hb, dec_t, dec_f]
  by_cases c3 : 300 < (b.length : Int)
  · simp (disch := omega) only [ws, ls22 ha, ls22 hb, dec_t, dec_f]
  by_cases c4 : m < 0
  · simp (disch := omega) only [ws, ls22 ha, ls22 hb, dec_t, dec_f]
  by_cases c5 : 50 < m
  · simp (disch := omega) only [ws, ls22 ha, ls22 hb, dec_t, dec_f]
  obtain ⟨m, rfl⟩ := Int.eq_ofNat_of_zero_le (show 0 ≤ m by omega)
  simp (disch := omega) only [ws, ls22 ha, ls22 hb, dec_t, dec_f, F6_9]
  have hva := bytes_cellsOf ha
  have hvb := bytes_cellsOf hb
  rw [bs_ok (cs := [v, w]) (l := [(0, v), (1, w)]) tt47 rfl tt22 (by decide) (by simp only [placesArr, hva.1, hvb.1]; rfl) (by simp only [fillA, repl, hva.1, hvb.1]; rfl)]
  refine many_ok (a := a) (b := b) (by omega) get_same (ha.but hbd1 (But.new _ _ none) (.inr rfl)) (hb.but hbd1 (But.new _ _ none) (.inr rfl)) (by omega) fun h2 hbd2 hb2 => ?_
  have hb12 : But h1 h2 none := (But.new _ _ none).trans hb2
  replace ha := ha.but hbd1 hb12 (.inr rfl)
  replace hb := hb.but hbd1 hb12 (.inr rfl)
  -- what comes behind, of any second text with this sum
  have rest : ∀ (h3 : H) (y : V) (bs : List UInt8), Bd h3 → BytesAt h3 v a → BytesAt h3 y bs → bs.length ≤ 400 → wsum bs = wsum b → F6_18 pw xx (Ok Try.prog (n + 6)) (fun v _ => v = .b true) v y (.i .i64 (m : Nat)) (.i .i64 (sOf (a ++ b) : Nat)) h3 := by
    intro h3 y bs hbd3 ha hy hlen hsum
    simp (disch := omega) only [F6_18, ws]
    refine of_ok (by omega) ha (by omega) ?_
    have s1 := sOf_lt a
    simp (disch := omega) only [ws]
    refine of_ok (by omega) hy (by omega) ?_
    have s2 := sOf_lt bs
    simp (disch := omega) only [ws]
    refine add_ok (by omega) ?_
    have e : (65535 : Int) - addI (65535 - (sOf a : Nat)) (65535 - (sOf bs : Nat)) = (sOf (a ++ b) : Nat) := by
      unfold sOf
      rw [inv_nrm, wsum_app b (by omega), hsum]
    have s3 := addI_lo (65535 - (sOf a : Nat)) (65535 - (sOf bs : Nat))
    simp (disch := omega) only [ws, e, decide_true]
    refine copy_ok ha hbd3 (by omega) fun c h4 hv hb4 hq => ?_
    have ha4 := ha.but hbd3 hb4 (.inr rfl)
    have hal := ha.lt hbd3
    refine ap_make (m := m) (j := ⟨.int .u8, 1, 1, false, (some [.i]), [.i .u8 0], (.i .u8 0)⟩) tt22 rfl tt5 tt3 rfl hv ?_ ?_ (by unfold most; simp; omega) (by unfold most; omega) fun c2 h5 hv5 hb5 hq5 => ?_
    · show (repl m [V.i .u8 0]).length = m * 1
      rw [repl_bytes, u8s_len]; simp
    · show (repl m [V.i .u8 0]).all oneV = true
      rw [repl_bytes]; exact u8s_one _
    · replace hv5 : Vec h5 c2 5 1 (u8s a ++ repl m [V.i .u8 0]) (a.length + m) := hv5
      rw [repl_bytes, ← u8s_app] at hv5
      refine of_ok (by omega) hv5.bytes (by simp; omega) ?_
      obtain ⟨q, hq1, hq2, hq3⟩ := hq
      refine of_ok (by omega) (ha4.keep (fun q hq => Nat.lt_of_lt_of_le (hal q hq) hb4.1) hb5 (.inl (lt_ne hal ⟨q, hq1, hq2⟩))) (by omega) ?_
      have e : sOf (a ++ List.replicate m 0) = sOf a := by
        unfold sOf; rw [wsum_app _ (by omega), wsum_zeros, Nat.add_zero]
      simp (disch := omega) only [ws, e, decide_true]
  by_cases c6 : (b.length : Int) % 2 = 1
  · simp (disch := omega) only [ws, dec_t]
    refine copy_ok hb hbd2 (by omega) fun c h3 hv hb3 hq => ?_
    rw [bs_ok tt22 rfl tt5 (by decide) rfl rfl]
    have hq' : ∀ q, vblk c = some q → q < h3.next := by
      obtain ⟨q, h1, h2, h4⟩ := hq
      intro q' e; rw [h1] at e; cases e; exact h4
    have h00 : BytesAt ⟨h3.next + 1, h3.mem.put h3.next (some (.c [.i .u8 0] 5 true))⟩ (.sl h3.next 0 1 1 false) [0] := by
      refine ⟨rfl, Nat.le_refl _, _, _, _, get_same, Nat.le_refl _, fun i hi => ?_⟩
      match i, hi with
      | 0, _ => rfl
    refine ap_bytes (hv.keep hq' (But.new _ _ none) (.inr rfl)) h00 (by simp; omega) fun c2 h4 hv4 hb4 hq4 => ?_
    have hb23 : But h2 h4 none := (hb3.trans (But.new _ _ none)).over hb4 (.inr fun r e => by
      obtain ⟨q, h1, h2, _⟩ := hq
      rw [h1] at e; cases e; exact h2)
    have hbd4 := hb23.2.2 hbd2
    exact rest h4 c2 (b ++ [0]) hbd4 (ha.but hbd2 hb23 (.inr rfl)) hv4.bytes (by simp; omega) (wsum_pad (by omega))
  · simp (disch := omega) only [ws, dec_f]
    exact rest h2 w b hbd2 ha hb (by omega) rfl
end Go.Proofs.Ythmnfjaogoennaa.Wb
