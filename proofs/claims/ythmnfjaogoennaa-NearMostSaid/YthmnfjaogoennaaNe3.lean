/- Who is where: the walk of 'room'. -/
import Derived.Test.YthmnfjaogoennaaNe2
set_option linter.unusedSimpArgs false
set_option linter.unusedVariables false
set_option linter.unusedSectionVars false
set_option linter.unnecessarySimpa false
set_option maxRecDepth 100000
namespace Go.Proofs.Ythmnfjaogoennaa.Wb
open Go.Am

theorem delete_ok {n : Nat} (hn : 1 ≤ n) {lv : V} {es : List Ent} {h : H} {p : Nat} {K : V → H → Prop} (hv : VecE h lv 66 14 enc es) (hw : ∀ e ∈ es, oneV e.w = true) (hl : es.length ≤ 1000) (hp : p < es.length)
    (hk : ∀ v' h', Bd h' → VecE h' v' 66 14 enc (es.eraseIdx p) → But h h' (vblk lv) → vblk v' = vblk lv → K v' h') : Ok Try.prog n 47 [lv, .i .i64 (p : Nat), .i .i64 ((p + 1 : Nat) : Int)] h K := by
  obtain ⟨n, rfl⟩ := Nat.exists_eq_add_of_le' hn
  refine Ok.bd (K47 fun hbd => ?_)
  have hcap : ∃ q cap e l, lv = .sl q 0 es.length cap e ∧ es.length ≤ cap ∧ h.mem.get q = some (.c l 66 true) := by
    obtain ⟨_, ⟨_, h0⟩ | ⟨q, cap, e, l, h1, h2, h3, _⟩⟩ := hv
    · omega
    · exact ⟨q, cap, e, l, h1, h3, h2⟩
  have hsc : ∃ v', slc xx 60 lv (some (.i .i64 (p : Nat))) (some (.i .i64 ((p + 1 : Nat) : Int))) (some (.i .i64 (es.length : Nat))) = some v' := by
    obtain ⟨q, cap, e, l, rfl, h1, _⟩ := hcap
    simp only [slc, ti, tt60, tt66, goS]
    rw [bound_i h1]
    simp only
    rw [bound_i (show p + 1 ≤ es.length by omega)]
    simp only
    rw [bound_i (show p ≤ p + 1 by omega)]
    exact ⟨_, rfl⟩
  obtain ⟨v', hsc⟩ := hsc
  simp (disch := omega) only [F47, vece_len tt60 rfl hv]
  show oP (slc xx 60 lv _ _ _) _
  rw [hsc, oP_some]
  simp (disch := omega) only [ws, dec_f, F47_11, vece_len tt60 rfl hv]
  refine vec_del tt60 rfl tt66 rfl rfl enc_len (fun e he => by simp [enc, oneV]; exact hw e he) hv (by unfold most; simp; omega) hp fun v2 h2 hv2 hb2 hq2 hbd2 => hk v2 h2 hbd2 hv2 hb2 hq2

/-- The entries that are asked for stand first, those that are known behind, the eldest first. -/
def Seg (s : Nat) (es : List Ent) : Prop := (∀ i (h : i < es.length), (es[i].kn = decide (s ≤ i)) ∧ 0 ≤ es[i].at' ∧ es[i].at' ≤ 1000000 ∧ oneV es[i].w = true) ∧ ∀ i j (hi : i < es.length) (hj : j < es.length), s ≤ i → i < j → es[i].at' < es[j].at'

theorem room_loop {n : Nat} {r s : Nat} {now : Int} {es : List Ent} (hs : Seg s es) (hl : es.length ≤ 1000) {h0 : H} (hbd0 : Bd h0) {lv : V} (h1 : h0.mem.get r = some (.c [.i .i64 1000, .i .i64 now, lv] 62 true)) (h2 : VecE h0 lv 66 14 enc es) {K : V → H → Prop}
    (hk : ∀ h, But h0 h none → F36_6 pw xx (Ok Try.prog n) K (.p r 0) (.i .i64 (if s < es.length then (s : Int) else -1)) h) :
    ∀ (fuel k : Nat) (h : H), es.length < fuel + k → k ≤ es.length → But h0 h none → F36_34 pw xx (Ok Try.prog n) K fuel (.p r 0) (.i .i64 (if s < k then (s : Int) else -1)) lv (.i .i64 (es.length : Nat)) (.i .i64 (k : Nat)) h := by
  intro fuel
  induction fuel with
  | zero => intro k h h1 h2; omega
  | succ fuel ih =>
    intro k h hf hkl hb
    rw [S36_34]
    by_cases hlt : k < es.length
    · simp (disch := omega) only [ws, dec_t, F36_41]
      have hbd : Bd h := hb.2.2 hbd0
      refine vece_at enc_len (h2.keep (h2.lt hbd0) hb (.inr rfl)) rfl hlt fun b ha => ?_
      rw [ha.all]
      obtain ⟨e1, e2, e3, e4⟩ := hs.1 k hlt
      refine al_a tt66 fun q h4 hq hb4 hq1 hq2 => ?_
      refine sn_w (w := .a (enc es[k])) (cs := enc es[k]) hq rfl rfl rfl (by simp [enc, oneV]; exact e4) fun h5 hq5 hb5 => ?_
      have hb05 : But h0 h5 none := (hb.trans hb4).over hb5 (.inr fun r e => by cases e; exact Nat.le_trans hb.1 hq1)
      have g1 := hb05.get (hbd0 _ _ h1) (by simp) h1
      have g2 := h2.keep (h2.lt hbd0) hb05 (.inr rfl)
      by_cases hsk : s ≤ k
      · rw [decide_eq_true hsk] at e1
        by_cases hsk2 : s = k
        · subst hsk2
          rw [if_neg (by omega)]
          simp (disch := omega) only [ws, wm, hq5, enc, Nat.zero_add, List.getElem?_cons_succ, List.getElem?_cons_zero, e1, dec_t, dec_f, F36_47]
          have := ih (s + 1) h5 (by omega) (by omega) hb05
          rw [if_pos (by omega)] at this
          exact this
        · rw [if_pos (by omega)]
          obtain ⟨f1, f2, f3, f4⟩ := hs.1 s (by omega)
          have f5 := hs.2 s k (by omega) hlt (Nat.le_refl _) (by omega)
          simp (disch := omega) only [ws, wm, hq5, enc, g1, Nat.zero_add, Nat.add_zero, List.getElem?_cons_succ, List.getElem?_cons_zero, e1, dec_t, dec_f]
          refine vece_at enc_len g2 (i := s) rfl (by omega) fun b2 ha2 => ?_
          rw [fa_p, ha2.get (x := .i .i64 es[s].at') rfl]
          simp (disch := omega) only [ws, wm, hq5, enc, g1, Nat.zero_add, Nat.add_zero, List.getElem?_cons_succ, List.getElem?_cons_zero, e1, dec_t, dec_f]
          refine vece_at enc_len g2 (i := s) rfl (by omega) fun b3 ha3 => ?_
          rw [fa_p, ha3.get (x := .i .i64 es[s].at') rfl]
          simp (disch := omega) only [ws, wm, hq5, enc, g1, Nat.zero_add, Nat.add_zero, List.getElem?_cons_succ, List.getElem?_cons_zero, e1, dec_t, dec_f, F36_47]
          have := ih (k + 1) h5 (by omega) (by omega) hb05
          rw [if_pos (by omega)] at this
          exact this
      · rw [decide_eq_false hsk] at e1
        rw [if_neg (by omega)]
        simp (disch := omega) only [ws, wm, hq5, enc, Nat.zero_add, List.getElem?_cons_succ, List.getElem?_cons_zero, e1, dec_t, dec_f, F36_47]
        have := ih (k + 1) h5 (by omega) (by omega) hb05
        rw [if_neg (by omega)] at this
        exact this
    · simp (disch := omega) only [ws, dec_f]
      obtain rfl : k = es.length := by omega
      exact hk h hb

/-- 'room': there is some, or the eldest that is known goes, or there is none. -/
theorem room_ok {n : Nat} (hn : 2 ≤ n) {r s : Nat} {c : Option Nat} {now : Int} {es : List Ent} {h : H} {K : V → H → Prop} (ht : NT h r c now es) (hs : Seg s es) (hl : es.length ≤ 32)
    (hk : ∀ h', Bd h' → But h h' none → es.length < 32 → K (.b true) h')
    (hk2 : ∀ h', Bd h' → es.length = 32 → s < 32 → NT h' r c now (es.eraseIdx s) → But2 h h' r c → K (.b true) h')
    (hk3 : ∀ h', Bd h' → But h h' none → es.length = 32 → 32 ≤ s → K (.b false) h') : Ok Try.prog n 36 [.p r 0] h K := by
  obtain ⟨n, rfl⟩ := Nat.exists_eq_add_of_le' hn
  refine Ok.bd (K36 fun hbd => ?_)
  obtain ⟨lv, h1, h2, rfl, h3⟩ := ht
  simp (disch := omega) only [F36, ws, wm, Nat.zero_add, h1, List.getElem?_cons_succ, List.getElem?_cons_zero, vece_len tt60 rfl h2]
  by_cases hc : es.length < 32
  · simp (disch := omega) only [dec_t, ws]
    exact fun hb => hk h hb (But.refl _ _) hc
  · simp (disch := omega) only [dec_f, ws, wm, F36_3, Nat.zero_add, h1, List.getElem?_cons_succ, List.getElem?_cons_zero, vece_len tt60 rfl h2]
    have := room_loop (n := n + 1) (K := fun v h' => Bd h' → K v h') hs (by omega) hbd h1 h2 (fun h4 hb4 => ?_) 100000 0 h (by omega) (by omega) (But.refl _ _)
    · rw [if_neg (by omega)] at this
      exact this
    · by_cases c2 : s < 32
      · rw [if_pos (by omega)]
        simp (disch := omega) only [ws, l1_p, F36_6, F36_9, dec_f, hb4.get (hbd _ _ h1) (by simp) h1, Nat.zero_add, List.getElem?_cons_succ, List.getElem?_cons_zero]
        have g1 := hb4.get (hbd _ _ h1) (by simp) h1
        have g2 := h2.keep (h2.lt hbd) hb4 (.inr rfl)
        refine delete_ok (p := s) (by omega) g2 (fun e he => ?_) (by omega) (by omega) fun v' h5 hbd5 hv5 hb5 hq5 => ?_
        · obtain ⟨i, hi, rfl⟩ := List.mem_iff_getElem.1 he
          exact (hs.1 i hi).2.2.2
        have g5 := hb5.get (hb4.2.2 hbd _ _ g1) (fun e => h3 e.symm) g1
        refine s1_a (o := 2) g5 (by simp) ?_ fun h6 hg6 hb6 => ?_
        · rcases hv5 with ⟨_, ⟨rfl, _⟩ | ⟨_, _, _, _, rfl, _⟩⟩ <;> rfl
        intro hbd6
        have h3' : vblk v' ≠ some r := by rw [hq5]; exact h3
        exact hk2 h6 hbd6 (by omega) c2 ⟨v', hg6, hv5.keep (hv5.lt hbd5) hb6 (.inl h3'), hq5, h3⟩ (((hb4.two (.inl rfl)).trans (hb5.two (.inr (.inr rfl)))).trans (hb6.two (.inr (.inl rfl))))
      · rw [if_neg (by omega)]
        simp (disch := omega) only [ws, F36_6, dec_t]
        exact fun hb => hk3 h4 hb hb4 (by omega) (by omega)
end Go.Proofs.Ythmnfjaogoennaa.Wb
