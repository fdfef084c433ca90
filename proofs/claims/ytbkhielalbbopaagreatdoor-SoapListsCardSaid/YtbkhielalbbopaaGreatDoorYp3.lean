/- Addresses: texts of four numbers, read and written. -/
import Derived.Test.YtbkhielalbbopaaGreatDoorYp2
set_option linter.unusedSimpArgs false
set_option linter.unusedVariables false
set_option linter.unusedSectionVars false
set_option linter.unnecessarySimpa false
set_option maxRecDepth 100000
namespace Go.Proofs.YtbkhielalbbopaaGreatDoor.Wb
open Go Go.Am Go.Am.Xm

theorem get_at' {s : Bs} {p : Nat} {b : UInt8} (h : s[p]? = some b) : (⟨⟨s⟩⟩ : ByteArray).get! (p + 0) = b := by
  show (⟨s⟩ : Array UInt8)[p]! = b
  simp only [List.getElem!_toArray]
  rw [List.getElem!_eq_getElem?_getD, h]; rfl
theorem dec_lo {s : Bs} {p : Nat} {b : UInt8} (h : s[p]? = some b) (hb : b.toNat < 128) : Utf8.decode ⟨⟨s⟩⟩ p = (b.toNat, 1) := by
  unfold Utf8.decode
  simp only [get_at' h]
  rw [if_pos hb]
theorem bd_putB {h : H} {r : Nat} {b : B} (hb : Bd h) (hr : r < h.next) : Bd (putB h r b) := by
  intro q c hq
  have hq : (h.mem.put r (some b)).get q = some c := hq
  rw [T.get_put] at hq
  by_cases e : r = q
  · subst e; exact hr
  · rw [if_neg e] at hq; exact hb _ _ hq
theorem put_it {h : H} {r : Nat} {b : B} (hr : r < h.next) : But h (putB h r b) (some r) ∧ (putB h r b).mem.get r = some b :=
  ⟨⟨Nat.le_refl _, fun q hq hne => by
    show (h.mem.put r _).get q = _
    rw [T.get_put, if_neg (fun e => hne (by rw [e]))], fun hb => bd_putB hb hr⟩, by
    show (h.mem.put r _).get r = _
    rw [T.get_put, if_pos rfl]⟩

def spL (cur : Bs) : Bs → List Bs
  | [] => [cur]
  | c :: r => if c = 46 then cur :: spL [] r else spL (cur ++ [c]) r
def enc1 (s : Bs) : List V := [.s s]
theorem enc1_len (s : Bs) : (enc1 s).length = 1 := rfl

/-- A text cut at its points. -/
theorem parts_ok {n : Nat} (hn : 1 ≤ n) {s : Bs} (hl : s.length ≤ 100) (hlo : ∀ c ∈ s, c.toNat < 128) {h : H} {K : V → H → Prop} (k : ∀ h' v, But h h' none → VecE h' v 9 1 enc1 (spL [] s) → K v h') : Ok Tryz.prog n 125 [.s s, .i .i32 46] h K := by
  obtain ⟨n, rfl⟩ := Nat.exists_eq_add_of_le' hn
  refine Ok.bd (K125 fun hbd => ?_)
  unfold F125
  rw [rn_s tt9 rfl]
  have app : ∀ {h1 : H} {lv : V} {l : List Bs} {x : Bs} {κ : V → H → Prop}, VecE h1 lv 9 1 enc1 l → (∀ z, vblk lv = some z → h.next ≤ z ∧ z < h1.next) → l.length ≤ 200 → But h h1 none →
      (∀ v2 h2, VecE h2 v2 9 1 enc1 (l ++ [x]) → (∀ z, vblk v2 = some z → h.next ≤ z ∧ z < h2.next) → But h h2 none → (∀ q, q < h1.next → vblk lv ≠ some q → h2.mem.get q = h1.mem.get q) → h1.next ≤ h2.next → (∀ z, vblk v2 = some z → vblk lv = some z ∨ h1.next ≤ z) → κ v2 h2) →
      pw.bs (mkX Tryz.prog) 59 1 [(0, .s x)] h1 fun v14 h14 => pw.ap (mkX Tryz.prog) 59 59 lv v14 h14 κ := by
    intro h1 lv l x κ hv hz hl f kk
    refine bs_a (cs := enc1 x) (l := [(0, .s x)]) tt59 rfl tt9 (by decide) rfl rfl fun q g1 hg1 f1 _ _ => ?_
    have hv1 : VecE g1 lv 9 1 enc1 l := hv.keep (fun z hz' => (hz z hz').2) f1 (.inr rfl)
    refine ap_vec (cs := enc1 x) (m := 1) tt59 rfl tt9 tt59 (by intro k e; cases e) rfl ?_ hv1 rfl rfl (by unfold most; simp only; omega) (by unfold most; omega) fun v2 g2 hv2 f2 hq => ?_
    · simp only [fcells, hg1]
      rfl
    have n1 := f1.1
    have n2 := f2.1
    have n0 := f.1
    refine kk v2 g2 ?_ (fun z hz' => ?_) ((f.trans f1).over f2 (.inr fun z hz' => (hz z hz').1)) (fun q hq' hne => ?_) (by omega) (fun z hz' => ?_)
    · unfold VecE
      rw [encs_app, encs_one, List.length_append]
      exact hv2
    · rcases hq with e | ⟨e, e'⟩
      · rw [e] at hz'
        have := hz z hz'
        omega
      · rw [e] at hz'
        cases hz'
        omega
    · rw [f2.2.1 q (by omega) (fun e => hne e.symm), f1.2.1 q hq' (by simp)]
    · rcases hq with e | ⟨e, e'⟩
      · rw [e] at hz'; exact .inl hz'
      · rw [e] at hz'; cases hz'; exact .inr n1
  have go : ∀ (m p f0 : Nat) (l : List Bs) (lv : V) (h' : H) (ri : Nat), s.length - p < m → f0 ≤ p → p ≤ s.length → l.length ≤ p → h'.mem.get ri = some (.it s p) → But h h' none → h.next ≤ ri → ri < h'.next → VecE h' lv 9 1 enc1 l → (∀ z, vblk lv = some z → h.next ≤ z ∧ z < h'.next ∧ z ≠ ri) → l ++ spL ((s.drop f0).take (p - f0)) (s.drop p) = spL [] s →
      F125_19 pw (mkX Tryz.prog) (Ok Tryz.prog n) (fun v h => Bd h → K v h) m (.s s) (.i .i32 46) lv (.i .i64 f0) (.p ri 0) h' := by
    intro m
    induction m with
    | zero => intro p f0 l lv h' ri hm; omega
    | succ m ih =>
      intro p f0 l lv h' ri hm hf hp hll hg f h0 h1 hv hz he
      rw [S125_19]
      by_cases hlt : p < s.length
      · rw [nx_t hg hlt]
        have hsp : s[p]? = some (s[p]'hlt) := List.getElem?_eq_getElem hlt
        have hb := hlo _ (List.getElem_mem hlt)
        rw [dec_lo hsp hb]
        simp only [ex_t, List.getElem?_cons_zero, oP_some, cd_t]
        obtain ⟨f1, g1⟩ := put_it (b := .it s (p + 1)) h1
        have n1 : (putB h' ri (.it s (p + 1))).next = h'.next := rfl
        generalize putB h' ri (.it s (p + 1)) = h2 at f1 g1 n1 ⊢
        have f2 : But h h2 none := f.over f1 (.inr fun z e => by cases e; exact h0)
        have hv2 : VecE h2 lv 9 1 enc1 l := hv.keep (fun z hz' => (hz z hz').2.1) f1 (.inl fun e => (hz ri e).2.2 rfl)
        have hd : s.drop p = s[p]'hlt :: s.drop (p + 1) := List.drop_eq_getElem_cons hlt
        rw [hd] at he
        unfold F125_27
        simp only [ex_t, List.getElem?_cons_zero, List.getElem?_cons_succ, oP_some]
        rw [eq_i]
        simp only [spL] at he
        by_cases hc : s[p]'hlt = 46
        · rw [if_pos hc] at he
          rw [decide_eq_true (show (((s[p]'hlt).toNat : Nat) : Int) = 46 by rw [hc]; rfl), cd_t, sc_s2 tt9 rfl hf (by omega)]
          refine app hv2 (fun z hz' => by have := hz z hz'; omega) (by omega) f2 fun v3 h3 hv3 hz3 f3 hk3 n3 hor => ?_
          rw [ad_64 (by omega), show (p : Int) + 1 = ((p + 1 : Nat) : Int) by omega]
          have hri : vblk lv ≠ some ri := fun e => (hz ri e).2.2 rfl
          refine ih (p + 1) (p + 1) (l ++ [(s.drop f0).take (p - f0)]) v3 h3 ri (by omega) (by omega) (by omega) (by rw [List.length_append, List.length_singleton]; omega) (by rw [hk3 ri (by omega) hri]; exact g1) f3 h0 (by omega) hv3 (fun z hz' => ?_) ?_
          · have h4 := hz3 z hz'
            refine ⟨h4.1, h4.2, fun e => ?_⟩
            subst e
            rcases hor z hz' with h5 | h5
            · exact hri h5
            · omega
          · rw [← he, Nat.sub_self, List.take_zero, List.append_assoc]
            rfl
        · rw [if_neg hc] at he
          have hne : ¬ (((s[p]'hlt).toNat : Nat) : Int) = 46 := fun e => hc (UInt8.toNat.inj (by show _ = 46; omega))
          rw [decide_eq_false hne, cd_f]
          refine ih (p + 1) f0 l lv h2 ri (by omega) (by omega) (by omega) (by omega) g1 f2 h0 (by omega) hv2 (fun z hz' => by have := hz z hz'; omega) ?_
          rw [← he]
          congr 2
          rw [show p + 1 - f0 = (p - f0) + 1 by omega, List.take_add_one, List.getElem?_drop, show f0 + (p - f0) = p by omega, hsp]
          rfl
      · rw [nx_f hg (by omega)]
        simp only [ex_t, List.getElem?_cons_zero, oP_some, cd_f]
        unfold F125_6
        rw [sc_s1 tt9 rfl (by omega)]
        refine app hv (fun z hz' => by have := hz z hz'; omega) (by omega) f fun v3 h3 hv3 hz3 f3 _ _ _ => ?_
        rw [List.drop_eq_nil_of_le (show s.length ≤ p by omega), List.take_of_length_le (by rw [List.length_drop]; omega)] at he
        simp only [spL] at he
        rw [he] at hv3
        exact fun _ => k h3 v3 f3 hv3
  refine go 100000 0 0 [] .ns _ h.next (by omega) (by omega) (by omega) (by simp) ?_ (But.new _ _ _) (Nat.le_refl _) (Nat.lt_succ_self _) ⟨rfl, .inl ⟨rfl, rfl⟩⟩ (fun z hz => by cases hz) (by simp)
  show (h.mem.put h.next _).get h.next = _
  rw [T.get_put, if_pos rfl]
end Go.Proofs.YtbkhielalbbopaaGreatDoor.Wb
