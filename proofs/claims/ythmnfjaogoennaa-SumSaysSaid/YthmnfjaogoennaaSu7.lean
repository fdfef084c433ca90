/- Sums that are turned: the walk. -/
import Derived.Test.YthmnfjaogoennaaSu6
set_option linter.unusedSimpArgs false
set_option linter.unusedVariables false
set_option linter.unusedSectionVars false
set_option linter.unnecessarySimpa false
set_option maxRecDepth 100000
namespace Go.Sum

/-- What a sum's complement becomes as words go and others come. -/
def turnL : List UInt8 → List UInt8 → Nat → Nat
  | a :: b :: l, c :: d :: m, s => turnL l m (nrm (nrm (s + (65535 - (a.toNat * 256 + b.toNat))) + (c.toNat * 256 + d.toNat)))
  | _, _, s => s

theorem turnL_le : ∀ (l m : List UInt8) (s : Nat), s ≤ 65535 → turnL l m s ≤ 65535
  | a :: b :: l, c :: d :: m, s, _ => turnL_le l m _ (nrm_lt _)
  | [], _, s, h => by simpa [turnL] using h
  | [_], _, s, h => by simpa [turnL] using h
  | _ :: _ :: _, [], s, h => by simpa [turnL] using h
  | _ :: _ :: _, [_], s, h => by simpa [turnL] using h
theorem nrm_mod_eq (s : Nat) : nrm s % 65535 = s % 65535 := by unfold nrm; split <;> omega
theorem turnL_mod : ∀ (l m : List UInt8) (s : Nat), l.length = m.length → l.length % 2 = 0 → (turnL l m s + wsum l) % 65535 = (s + wsum m) % 65535
  | a :: b :: l, c :: d :: m, s, h, h2 => by
    have ih := turnL_mod l m (nrm (nrm (s + (65535 - (a.toNat * 256 + b.toNat))) + (c.toNat * 256 + d.toNat))) (by simpa using h) (by simp at h2; omega)
    have e1 := nrm_mod_eq (nrm (s + (65535 - (a.toNat * 256 + b.toNat))) + (c.toNat * 256 + d.toNat))
    have e2 := nrm_mod_eq (s + (65535 - (a.toNat * 256 + b.toNat)))
    have b1 := a.toNat_lt
    have b2 := b.toNat_lt
    simp only [turnL, wsum_cons2]
    generalize turnL l m (nrm (nrm (s + (65535 - (a.toNat * 256 + b.toNat))) + (c.toNat * 256 + d.toNat))) = t at *
    generalize nrm (nrm (s + (65535 - (a.toNat * 256 + b.toNat))) + (c.toNat * 256 + d.toNat)) = u at *
    generalize nrm (s + (65535 - (a.toNat * 256 + b.toNat))) = v at *
    omega
  | [], [], s, _, _ => rfl
  | [_], _, s, _, h => by simp at h
  | [], _ :: _, _, h, _ => by simp at h
  | _ :: _ :: _, [], s, h, _ => by simp at h
  | _ :: _ :: _, [_], s, h, _ => by simp at h
end Go.Sum
namespace Go.Proofs.Ythmnfjaogoennaa.Wb
open Go.Am Go.Sum

theorem turnL_drop {a b : List UInt8} {k s : Nat} (ha : k + 1 < a.length) (hb : k + 1 < b.length) : turnL (a.drop k) (b.drop k) s = turnL (a.drop (k + 2)) (b.drop (k + 2)) (nrm (nrm (s + (65535 - ((a.getD k 0).toNat * 256 + (a.getD (k + 1) 0).toNat))) + ((b.getD k 0).toNat * 256 + (b.getD (k + 1) 0).toNat))) := by
  rw [List.drop_eq_getElem_cons (l := a) (by omega), List.drop_eq_getElem_cons (l := a) (i := k + 1) (by omega), List.drop_eq_getElem_cons (l := b) (by omega), List.drop_eq_getElem_cons (l := b) (i := k + 1) (by omega), gd_eq (by omega), gd_eq (by omega), gd_eq (by omega), gd_eq (by omega)]
  rfl

theorem turn_loop {n : Nat} (hn : 1 ≤ n) {v w : V} {a b : List UInt8} {h : H} {K : V → H → Prop} (ha : BytesAt h v a) (hb : BytesAt h w b) (hl : a.length ≤ 1000000000) (hab : a.length = b.length) (hev : a.length % 2 = 0) : ∀ (fuel k s : Nat), a.length < 2 * fuel + k → k % 2 = 0 → k ≤ a.length → s ≤ 65535 → K (.i .i64 (65535 - (turnL (a.drop k) (b.drop k) s : Nat))) h →
    F20_19 pw xx (Ok Try.prog n) K fuel v w (.i .i64 s) (.i .i64 k) h := by
  intro fuel
  induction fuel with
  | zero => intro k s h1 h2 h3; omega
  | succ fuel ih =>
    intro k s h1 h2 h3 h4 hk
    rw [S20_19]
    by_cases hlt : k < a.length
    · have b1 := byt_lt a k
      have b2 := byt_lt a (k + 1)
      have b3 := byt_lt b k
      have b4 := byt_lt b (k + 1)
      simp (disch := omega) only [ws, ls22 ha, dec_t, F20_24]
      rw [bytes_get ha (i := k) rfl (by omega)]
      try simp (disch := omega) only [ws]
      rw [bytes_get ha (i := k + 1) (by omega) (by omega)]
      try simp (disch := omega) only [ws]
      refine add_ok hn ?_
      have e : addI (s : Int) (65535 - (((a.getD k 0).toNat : Int) * 256 + ((a.getD (k + 1) 0).toNat : Int))) = (nrm (s + (65535 - ((a.getD k 0).toNat * 256 + (a.getD (k + 1) 0).toNat))) : Nat) := by
        rw [← addI_nrm _ _ (by omega) (by omega)]
        congr 1; omega
      have le1 := nrm_lt (s + (65535 - ((a.getD k 0).toNat * 256 + (a.getD (k + 1) 0).toNat)))
      rw [e]
      try simp (disch := omega) only [ws]
      rw [bytes_get hb (i := k) rfl (by omega)]
      try simp (disch := omega) only [ws]
      rw [bytes_get hb (i := k + 1) (by omega) (by omega)]
      try simp (disch := omega) only [ws]
      refine add_ok hn ?_
      have e2 : addI ((nrm (s + (65535 - ((a.getD k 0).toNat * 256 + (a.getD (k + 1) 0).toNat))) : Nat) : Int) (((b.getD k 0).toNat : Int) * 256 + ((b.getD (k + 1) 0).toNat : Int)) = (nrm (nrm (s + (65535 - ((a.getD k 0).toNat * 256 + (a.getD (k + 1) 0).toNat))) + ((b.getD k 0).toNat * 256 + (b.getD (k + 1) 0).toNat)) : Nat) := by
        exact Eq.trans (congrArg _ (by push_cast; rfl)) (addI_nrm _ ((b.getD k 0).toNat * 256 + (b.getD (k + 1) 0).toNat) le1 (by omega))
      rw [e2]
      try simp (disch := omega) only [ws, F20_29]
      refine ih (k + 2) _ (by omega) (by omega) (by omega) (nrm_lt _) ?_
      rw [← turnL_drop (by omega) (by omega)]
      exact hk
    · simp (disch := omega) only [ws, ls22 ha, dec_f, F20_13]
      rw [List.drop_eq_nil_of_le (by omega), List.drop_eq_nil_of_le (by omega)] at hk
      exact hk

/-- 'Turn'. -/
def turnI (s : Int) (a b : List UInt8) : Int := if a.length ≠ b.length ∨ a.length % 2 = 1 then s else 65535 - (turnL a b (65535 - s % 65536).toNat : Nat)

theorem turn_ok {n : Nat} (hn : 2 ≤ n) {s : Int} {v w : V} {a b : List UInt8} {h : H} {K : V → H → Prop} (ha : BytesAt h v a) (hb : BytesAt h w b) (hl : a.length < 190000) (hl2 : b.length < 190000) (hk : K (.i .i64 (turnI s a b)) h) : Ok Try.prog n 20 [.i .i64 s, v, w] h K := by
  obtain ⟨n, rfl⟩ := Nat.exists_eq_add_of_le' hn
  refine K20 fun hbd => ?_
  simp (disch := omega) only [F20, ws, ls22 ha, ls22 hb]
  unfold turnI at hk
  by_cases c1 : a.length = b.length
  · by_cases c2 : (a.length : Int) % 2 = 1
    · simp (disch := omega) only [ws, ls22 ha, ls22 hb, dec_t, dec_f, Bool.not_true, Bool.not_false]
      rw [if_pos (.inr (by omega))] at hk
      exact hk
    · simp (disch := omega) only [ws, ls22 ha, ls22 hb, dec_t, dec_f, Bool.not_true, Bool.not_false, F20_5]
      rw [if_neg (by omega)] at hk
      have e : (65535 : Int) - s % 65536 = ((65535 - s % 65536).toNat : Int) := by omega
      rw [e]
      exact turn_loop (by omega) ha hb (by omega) c1 (by omega) 100000 0 _ (by omega) rfl (by omega) (by omega) (by simpa using hk)
  · simp (disch := omega) only [ws, ls22 ha, ls22 hb, dec_t, dec_f, Bool.not_true, Bool.not_false]
    rw [if_pos (.inl c1)] at hk
    exact hk

theorem turns_law {b now : List UInt8} {at' : Nat} (h1 : at' % 2 = 0) (h2 : now.length % 2 = 0) (h3 : at' + now.length ≤ b.length) :
    turnI (sOf b : Nat) ((b.drop at').take now.length) now = (sOf (b.take at' ++ now ++ b.drop (at' + now.length)) : Nat) ∨
    (turnI (sOf b : Nat) ((b.drop at').take now.length) now + (sOf (b.take at' ++ now ++ b.drop (at' + now.length)) : Nat) = 65535 ∧ (turnI (sOf b : Nat) ((b.drop at').take now.length) now = 0 ∨ (sOf (b.take at' ++ now ++ b.drop (at' + now.length)) : Nat) = 0)) := by
  have hlen : ((b.drop at').take now.length).length = now.length := by simp; omega
  have hp : (b.take at').length = at' := by simp; omega
  have e1 : wsum b = wsum (b.take at') + (wsum ((b.drop at').take now.length) + wsum (b.drop (at' + now.length))) := by
    rw [← List.drop_drop, ← wsum_app _ (by rw [hlen]; exact h2), List.take_append_drop, ← wsum_app _ (by rw [hp]; exact h1), List.take_append_drop]
  have e2 : wsum (b.take at' ++ now ++ b.drop (at' + now.length)) = wsum (b.take at') + (wsum now + wsum (b.drop (at' + now.length))) := by
    rw [List.append_assoc, wsum_app _ (by rw [hp]; exact h1), wsum_app _ h2]
  unfold turnI
  rw [if_neg (by rw [hlen]; omega)]
  have e3 : ((65535 : Int) - ((sOf b : Nat) : Int) % 65536).toNat = nrm (wsum b) := by
    have := nrm_lt (wsum b)
    unfold sOf; omega
  rw [e3]
  have t1 := turnL_le ((b.drop at').take now.length) now (nrm (wsum b)) (nrm_lt _)
  have t2 := turnL_mod ((b.drop at').take now.length) now (nrm (wsum b)) hlen (by rw [hlen]; exact h2)
  have t3 := nrm_mod_eq (wsum b)
  have t4 := nrm_mod_eq (wsum (b.take at' ++ now ++ b.drop (at' + now.length)))
  have t5 := nrm_lt (wsum (b.take at' ++ now ++ b.drop (at' + now.length)))
  unfold sOf
  rw [e2] at t4 t5 ⊢
  generalize turnL ((b.drop at').take now.length) now (nrm (wsum b)) = t at *
  generalize nrm (wsum (b.take at') + (wsum now + wsum (b.drop (at' + now.length)))) = u at *
  omega

theorem turns_ok {n : Nat} (hn : 7 ≤ n) {h : H} {v w : V} {b now : List UInt8} {at' : Int} (hb : BytesAt h v b) (hw : BytesAt h w now) (hlb : b.length ≤ 9223372036854775807) (hln : now.length ≤ 9223372036854775807) : Ok Try.prog n 7 [v, .i .i64 at', w] h (fun v _ => v = .b true) := by
  obtain ⟨n, rfl⟩ := Nat.exists_eq_add_of_le' hn
  refine K7 fun hbd => ?_
  simp (disch := omega) only [F7, ws]
  refine awake_ok (by omega) fun h1 hbd1 hbut => ?_
  replace hb : BytesAt h1 v b := hb.but hbd hbut (.inr rfl)
  replace hw : BytesAt h1 w now := hw.but hbd hbut (.inr rfl)
  simp (disch := omega) only [F7_5, ws, Bool.not_true, ls22 hb, ls22 hw]
  by_cases c1 : 400 < (b.length : Int)
  · simp (disch := omega) only [ws, ls22 hb, ls22 hw, dec_t, dec_f]
  by_cases c2 : at' < 0
  · simp (disch := omega) only [ws, ls22 hb, ls22 hw, dec_t, dec_f]
  by_cases c3 : at' % 2 = 1
  · simp (disch := omega) only [ws, ls22 hb, ls22 hw, dec_t, dec_f]
  by_cases c4 : (now.length : Int) % 2 = 1
  · simp (disch := omega) only [ws, ls22 hb, ls22 hw, dec_t, dec_f]
  by_cases c5 : (b.length : Int) < at'
  · simp (disch := omega) only [ws, ls22 hb, ls22 hw, dec_t, dec_f]
  by_cases c6 : (b.length : Int) - at' < (now.length : Int)
  · simp (disch := omega) only [ws, ls22 hb, ls22 hw, dec_t, dec_f]
  obtain ⟨at', rfl⟩ := Int.eq_ofNat_of_zero_le (show 0 ≤ at' by omega)
  simp (disch := omega) only [ws, ls22 hb, ls22 hw, dec_t, dec_f, F7_9]
  have hvl := hb.lt hbd1
  have hwl := hw.lt hbd1
  rw [bs_ok (cs := []) (l := []) tt22 rfl tt5 (by decide) rfl rfl]
  have hnew : But h1 ⟨h1.next + 1, h1.mem.put h1.next (some (.c [] 5 true))⟩ none := But.new _ _ _
  generalize hh2 : (⟨h1.next + 1, h1.mem.put h1.next (some (.c [] 5 true))⟩ : H) = h2 at hnew
  have hv0 : Vec h2 (.sl h1.next 0 0 0 false) 5 1 (u8s []) 0 := by
    rw [← hh2]; exact ⟨rfl, .inr ⟨h1.next, 0, false, [], rfl, get_same, Nat.le_refl _, rfl, rfl⟩⟩
  have hn2 : h1.next < h2.next := by rw [← hh2]; exact Nat.lt_succ_self _
  have hb2 := hb.keep hvl hnew (.inr rfl)
  refine sc_bytes hb2 (lo := 0) (hi := at') (by omega) (by omega) (.inl ⟨rfl, rfl⟩) (.inr ⟨_, rfl⟩) fun p0 hp0 hpq => ?_
  rw [List.drop_zero, Nat.sub_zero] at hp0
  refine ap_bytes hv0 hp0 (by simp; omega) fun d1 h3 hv1 hb3 hq1 => ?_
  rw [List.nil_append] at hv1
  replace hb3 : But h2 h3 (some h1.next) := hb3
  replace hq1 : vblk d1 = some h1.next ∨ (vblk d1 = some h2.next ∧ h2.next < h3.next) := hq1
  have h13 : But h1 h3 none := hnew.over hb3 (.inr fun r e => by cases e; exact Nat.le_refl _)
  have hd1 : ∀ r, vblk d1 = some r → h1.next ≤ r := by
    intro r e; rcases hq1 with h | ⟨h, _⟩ <;> rw [h] at e <;> cases e <;> omega
  have hw3 := hw.keep hwl h13 (.inr rfl)
  refine ap_bytes hv1 hw3 (by simp; omega) fun d2 h4 hv2 hb4 hq2 => ?_
  have h14 : But h1 h4 none := h13.over hb4 (.inr hd1)
  have hd2 : ∀ r, vblk d2 = some r → h1.next ≤ r := by
    intro r e; rcases hq2 with h | ⟨h, _⟩
    · rw [h] at e; exact hd1 r e
    · rw [h] at e; cases e; exact h13.1
  have hb4' := hb.keep hvl h14 (.inr rfl)
  have hw4 := hw.keep hwl h14 (.inr rfl)
  try simp (disch := omega) only [ws, ls22 hw]
  refine sc_bytes hb4' (lo := at' + now.length) (hi := b.length) (by omega) (by omega) (.inr ⟨_, by push_cast; rfl⟩) (.inl ⟨rfl, rfl⟩) fun p1 hp1 hpq1 => ?_
  rw [List.take_of_length_le (by simp)] at hp1
  refine ap_bytes hv2 hp1 (by simp; omega) fun d3 h5 hv3 hb5 hq3 => ?_
  have h15 : But h1 h5 none := h14.over hb5 (.inr hd2)
  have hb5' := hb.keep hvl h15 (.inr rfl)
  have hw5 := hw.keep hwl h15 (.inr rfl)
  refine of_ok (by omega) hb5' (by omega) ?_
  try simp (disch := omega) only [ws, ls22 hw]
  refine sc_bytes hb5' (lo := at') (hi := at' + now.length) (by omega) (by omega) (.inr ⟨_, rfl⟩) (.inr ⟨_, by push_cast; rfl⟩) fun p2 hp2 hpq2 => ?_
  rw [Nat.add_sub_cancel_left] at hp2
  refine turn_ok (by omega) hp2 hw5 (by simp; omega) (by omega) ?_
  refine of_ok (by omega) hv3.bytes (by simp; omega) ?_
  have hs := sOf_lt (b.take at' ++ now ++ b.drop (at' + now.length))
  have law := turns_law (b := b) (now := now) (at' := at') (by omega) (by omega) (by omega)
  generalize turnI (sOf b : Nat) ((b.drop at').take now.length) now = x at law
  generalize sOf (b.take at' ++ now ++ b.drop (at' + now.length)) = y at law hs
  by_cases e1 : x = (y : Int)
  · simp (disch := omega) only [ws, dec_t]
  · have e2 : x + (y : Int) = 65535 := by omega
    by_cases e3 : x = 0
    · simp (disch := omega) only [ws, dec_t, dec_f]
    · simp (disch := omega) only [ws, dec_t, dec_f]
end Go.Proofs.Ythmnfjaogoennaa.Wb
