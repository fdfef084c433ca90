/- SoapWrites: the law. -/
import Derived.Test.YtbkhielalbbopaaGreatDoorZf4
set_option linter.unusedSimpArgs false
set_option linter.unusedVariables false
set_option linter.unusedSectionVars false
set_option linter.unnecessarySimpa false
set_option maxRecDepth 100000
namespace Go.Proofs.YtbkhielalbbopaaGreatDoor.Wb
open Go Go.Am Go.Am.Xm

theorem pr_pl {s : Bs} (h : ∀ c ∈ s, prB c = true) : plnB s := fun c hc => by
  have := h c hc
  simp [prB] at this
  omega

/-- A text of the outputs: printable signs alone, or nothing is asked. -/
theorem sws_ok {n : Nat} {act s : Bs} {ov lv : V} {code : Int} {i : Nat} {I : V → V → V → V → V → H → Prop} {h : H} {K : V → H → Prop} {ss : List Bs} (hs : StrsAt h ov ss) (hi : i < ss.length) (he : ss.getD i [] = s) (hl : s.length ≤ 60) (kt : Bd h → K (.b true) h)
    (k : (∀ c ∈ s, prB c = true) → F6_173 pw (mkX Tryz.prog) (Ok Tryz.prog n) (fun v h => Bd h → K v h) I (.s act) ov (.i .i64 code) lv (.i .i64 i) h) :
    ∀ (m j : Nat), s.length - j < m → j ≤ s.length → (∀ c ∈ s.take j, prB c = true) → F6_195 pw (mkX Tryz.prog) (Ok Tryz.prog n) (fun v h => Bd h → K v h) I m (.s act) ov (.i .i64 code) lv (.i .i64 i) (.i .i64 j) h := by
  intro m
  induction m with
  | zero => intro j hm; omega
  | succ m ih =>
    intro j hm hj hall
    rw [S6_195]
    have get := fun {κ : V → Prop} {k : IntKind} => strs_get (k := k) (κ := κ) hs hi
    rw [he] at get
    rw [get, lg_s tt9 rfl, lt_i]
    by_cases hlt : j < s.length
    · rw [decide_eq_true (show (j : Int) < s.length by omega), cd_t]
      have hsp : s[j]? = some (s[j]'hlt) := List.getElem?_eq_getElem hlt
      have hz := prc (s[j]'hlt)
      unfold F6_202
      rw [get, ix_s tt9 rfl hsp, lt_i]
      have next : prB (s[j]'hlt) = true → F6_209 pw (mkX Tryz.prog) (Ok Tryz.prog n) (fun v h => Bd h → K v h) I (F6_195 pw (mkX Tryz.prog) (Ok Tryz.prog n) (fun v h => Bd h → K v h) I m) (.s act) ov (.i .i64 code) lv (.i .i64 i) (.i .i64 j) h := by
        intro hc
        unfold F6_209
        rw [ad_64 (by omega), show (j : Int) + 1 = ((j + 1 : Nat) : Int) by omega]
        refine ih (j + 1) (by omega) (by omega) fun c hc' => ?_
        rw [List.take_add_one, hsp] at hc'
        rcases List.mem_append.1 hc' with h | h
        · exact hall c h
        · simp at h; rw [h]; exact hc
      cases h1 : decide (((s[j]'hlt).toNat : Int) < 32) with
      | true =>
        simp only [g0_t, pk_t, cd_t]
        exact kt
      | false =>
        simp only [g0_f]
        rw [get, ix_s tt9 rfl hsp, gt_i]
        rw [h1, Bool.false_or] at hz
        cases h2 : decide ((126 : Int) < ((s[j]'hlt).toNat : Int)) with
        | true =>
          simp only [pk_f, cd_t]
          exact kt
        | false =>
          simp only [pk_f, cd_f]
          rw [h2] at hz
          exact next (by simpa using hz.symm)
    · rw [decide_eq_false (show ¬ (j : Int) < s.length by omega), cd_f]
      rw [List.take_of_length_le (by omega)] at hall
      exact k hall

/-- The outputs, one by one. -/
theorem swo_ok {n : Nat} (hn : 22 ≤ n) {act : Bs} {ss : List Bs} {ov : V} {c : Nat} (hact : act.length ≤ 20) (hss : ss.length ≤ 10) (hc : c < 1000) (ha : ∀ c ∈ act, azB c = true) {hS : H} {K : V → H → Prop} (L : Low hS) (p : P10 hS) (ho : StrsAt hS ov ss) (k : ∀ h', But hS h' none → K (.b true) h') :
    ∀ (m i : Nat) (h : H) (lv : V), ss.length - i < m → i ≤ ss.length → But hS h none → Bd h → VecE h lv 49 2 encA (agsF 0 (ss.take i)) → (∀ z, vblk lv = some z → hS.next ≤ z ∧ z < h.next) → (∀ s ∈ ss.take i, s.length ≤ 60 ∧ plnB s) →
      F6_146 pw (mkX Tryz.prog) (Ok Tryz.prog n) (fun v h => Bd h → K v h) m (.s act) ov (.i .i64 c) lv (.i .i64 i) h := by
  intro m
  induction m with
  | zero => intro i h lv hm; omega
  | succ m ih =>
    intro i h lv hm hi f hbd hv hz hall
    have kt : Bd h → K (.b true) h := fun _ => k h f
    rw [S6_146, strs_len (ho.keep f), lt_i]
    by_cases hlt : i < ss.length
    · rw [decide_eq_true (show (i : Int) < ss.length by omega), cd_t]
      unfold F6_152
      have get := fun {κ : V → Prop} {k : IntKind} => strs_get (k := k) (κ := κ) (ho.keep f) hlt
      have hd : ss.getD i [] = ss[i] := by rw [List.getD_eq_getElem?_getD, List.getElem?_eq_getElem hlt]; rfl
      rw [hd] at get
      have hsp : ss[i]? = some ss[i] := List.getElem?_eq_getElem hlt
      generalize ss[i] = s at get hd hsp
      rw [get, lg_s tt9 rfl, gt_i]
      by_cases h60 : 60 < s.length
      · rw [decide_eq_true (show (60 : Int) < s.length by omega), cd_t]
        exact kt
      rw [decide_eq_false (show ¬ (60 : Int) < s.length by omega), cd_f]
      unfold F6_167
      refine sws_ok (ho.keep f) hlt hd (by omega) kt (fun hpr => ?_) 100000 0 (by omega) (by omega) (by simp)
      unfold F6_173
      rw [kb_ad (by omega)]
      refine bs1_ok ?_
      have fa : But h ⟨h.next + 1, h.mem.put h.next (some (.c (u8s [kb i]) 5 true))⟩ none := But.new _ _ _
      have ga : (⟨h.next + 1, h.mem.put h.next (some (.c (u8s [kb i]) 5 true))⟩ : H).mem.get h.next = some (.c (u8s [kb i]) 5 true) := get_same
      generalize (⟨h.next + 1, h.mem.put h.next (some (.c (u8s [kb i]) 5 true))⟩ : H) = g1 at fa ga ⊢
      rw [show pw.cs (mkX Tryz.prog) 60 9 (.sl h.next 0 1 1 false) g1 = fun κ => κ (.s [kb i]) from funext fun κ => cs_bs (bs := [kb i]) ga]
      simp only [c6]
      rw [ad_s (by simp)]
      have fSa := f.trans fa
      have get1 := fun {κ : V → Prop} {k : IntKind} => strs_get (k := k) (κ := κ) (ho.keep fSa) hlt
      rw [hd] at get1
      rw [get1]
      refine bl_a (v := .a [.s ([111] ++ [kb i]), .s s]) ?_ ?_
      · unfold blW
        rw [ti_some _ tt49]
        rfl
      refine bs_a (cs := encA ([111, kb i], s)) (l := [(0 * 2, .a (encA ([111, kb i], s)))]) tt23 rfl tt49 (by decide) rfl rfl fun q2 g2 hg2 f2 _ _ => ?_
      have hv2 : VecE g2 lv 49 2 encA (agsF 0 (ss.take i)) := (hv.keep (fun z hz' => (hz z hz').2) fa (.inr rfl)).keep (fun z hz' => Nat.lt_of_lt_of_le (hz z hz').2 fa.1) f2 (.inr rfl)
      have hlen : (agsF 0 (ss.take i)).length ≤ 10 := by rw [agsF_len, List.length_take]; omega
      refine ap_vec (cs := encA ([111, kb i], s)) (m := 1) tt23 rfl tt49 tt23 (by intro k e; cases e) rfl ?_ hv2 rfl rfl (by unfold most; simp only; omega) (by unfold most; omega) fun v3 g3 hv3 f3 hq3 => ?_
      · simp only [fcells, hg2]
        rfl
      have hnext : ss.take (i + 1) = ss.take i ++ [s] := by rw [List.take_add_one, hsp]; rfl
      have hv3 : VecE g3 v3 49 2 encA (agsF 0 (ss.take (i + 1))) := by
        rw [hnext, agsF_app, show 0 + (ss.take i).length = i by rw [List.length_take]; omega]
        unfold VecE
        rw [encs_app, List.length_append]
        show Vec g3 v3 49 2 (encs encA (agsF 0 (ss.take i)) ++ encs encA [([111, kb i], s)]) _
        rw [encs_one]
        exact hv3
      have fS2 := fSa.trans f2
      have f13 := fS2.1
      have fz : ∀ z, vblk lv = some z → hS.next ≤ z := fun z h' => (hz z h').1
      have fS3 : But hS g3 none := fS2.over f3 (.inr fz)
      unfold F6_158
      rw [ad_64 (by omega), show (i : Int) + 1 = ((i + 1 : Nat) : Int) by omega]
      have hbd3 : Bd g3 := f3.2.2 (f2.2.2 (fa.2.2 hbd))
      refine ih (i + 1) g3 v3 (by omega) (by omega) fS3 hbd3 hv3 (fun z hz' => ?_) fun x hx => ?_
      · rcases hq3 with e3 | ⟨e3, e3'⟩
        · rw [e3] at hz'
          have := hz z hz'
          have h1 := fa.1
          have h2 := f2.1
          have h3 := f3.1
          omega
        · rw [e3] at hz'
          cases hz'
          exact ⟨f13, e3'⟩
      · rw [hnext] at hx
        rcases List.mem_append.1 hx with hx | hx
        · exact hall x hx
        · simp at hx
          subst hx
          exact ⟨by omega, pr_pl hpr⟩
    · rw [decide_eq_false (show ¬ (i : Int) < ss.length by omega), cd_f]
      rw [List.take_of_length_le (by omega)] at hv hall
      exact sw_end hn hact hss hc ha hall (L.keep f (by simp)) (p.keep f (by simp)) hv hbd fun h' f' => k h' (f.trans f')

/-- SoapWrites, where 'awake' answers true. -/
theorem writes_law {n : Nat} (hn : 22 ≤ n) {act : Bs} {ss : List Bs} {ov : V} {code : Int} {h : H} {K : V → H → Prop} (hbd0 : Bd h) (L : Low h) (p : P10 h) (ho : StrsAt h ov ss) (aw : ∀ {K : V → H → Prop}, (∀ h', Bd h' → But h h' none → K (.b true) h') → Ok Tryz.prog n 8 [] h K)
    (k : ∀ h', But h h' none → K (.b true) h') : Ok Tryz.prog (n + 1) 6 [.s act, ov, .i .i64 code] h K := by
  refine Ok.bd (K6 fun hbd => ?_)
  unfold F6
  rw [cf_k]
  refine aw fun h1 hbd1 f1 => ?_
  simp only [nt_b, Bool.not_true, cd_f]
  have kt : Bd h1 → K (.b true) h1 := fun _ => k h1 f1
  unfold F6_5
  rw [strs_len (ho.keep f1), gt_i]
  by_cases hs : 10 < ss.length
  · rw [decide_eq_true (show (10 : Int) < ss.length by omega)]
    simp only [g0_t, pk_t, cd_t]
    exact kt
  rw [decide_eq_false (show ¬ (10 : Int) < ss.length by omega)]
  simp only [g0_f, pk_f]
  rw [lg_s tt9 rfl, gt_i]
  by_cases hla : 20 < act.length
  · rw [decide_eq_true (show (20 : Int) < act.length by omega)]
    simp only [g0_t, pk_t, cd_t]
    exact kt
  rw [decide_eq_false (show ¬ (20 : Int) < act.length by omega)]
  simp only [g0_f, pk_f, lt_i]
  by_cases hc0 : code < 0
  · rw [decide_eq_true hc0]
    simp only [g0_t, pk_t, cd_t]
    exact kt
  rw [decide_eq_false hc0]
  simp only [g0_f, pk_f, gt_i]
  by_cases hc1 : 999 < code
  · rw [decide_eq_true hc1]
    simp only [cd_t]
    exact kt
  rw [decide_eq_false hc1]
  simp only [cd_f]
  obtain ⟨c, rfl⟩ : ∃ c : Nat, code = c := ⟨code.toNat, by omega⟩
  unfold F6_9
  refine swn_ok (by omega) kt (fun ha => ?_) 100000 0 (by omega) (by omega) (by simp)
  unfold F6_13
  rw [eq_s]
  by_cases h0 : act = []
  · rw [show (act == []) = true by rw [h0]; rfl, cd_t]
    exact kt
  rw [show (act == []) = false by simpa using h0, cd_f]
  unfold F6_17
  exact swo_ok hn (by omega) (by omega) (by omega) ha (L.keep f1 (by simp)) (p.keep f1 (by simp)) (ho.keep f1) (fun h' f' => k h' (f1.trans f')) 100000 0 h1 .ns (by omega) (by omega) (But.refl _ _) hbd1 ⟨rfl, .inl ⟨rfl, rfl⟩⟩ (fun z hz => by cases hz) (by simp)
end Go.Proofs.YtbkhielalbbopaaGreatDoor.Wb
