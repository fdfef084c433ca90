/- Who has which address, with fixed devices and barred addresses: a lease is pushed. -/
import Derived.Test.YtfkbofbdonmpfaaPr6
set_option linter.unusedSimpArgs false
set_option linter.unusedVariables false
set_option linter.unusedSectionVars false
set_option linter.unnecessarySimpa false
set_option maxRecDepth 100000
namespace Go.Proofs.Ytfkbofbdonmpfaa.Wb
open Go.Am

theorem pushG_ok {r q : Nat} {c : Option Nat} {fx : List Le} {ms : List (V × V × Nat)} {first last now : Int} {es : List He} {e : He} {h : H} {κ : H → Prop} (ht : PG h r c fx ms first last now es) (hbd : Bd h) (hq : h.mem.get q = some (.c (encH e) 148 true)) (hl : es.length ≤ 10000)
    (K : ∀ h' c', PG h' r c' fx ms first last now (es ++ [e]) → (c' = c ∨ ∃ z, c' = some z ∧ h.next ≤ z) → But2 h h' r c → κ h') :
    pw.l1 (.p r (0 + 3)) h fun v40 => pw.ln 12 (.p q 0) h fun v41 => pw.bs xx 142 1 [(0, v41)] h fun v42 h42 => pw.ap xx 142 142 v40 v42 h42 fun v43 h43 => pw.s1 (.p r (0 + 3)) v43 h43 fun h46 => κ h46 := by
  obtain ⟨lv, fv, mb, k, h1, h2, rfl, h3, hm, hmo, hf, hf2, hf3⟩ := ht
  have hm2 := PG.mb h2 rfl hm
  have hr := hbd _ _ h1
  have hmb := hbd _ _ hm
  have hlv := h2.lt hbd
  have hfv := hf.lt hbd
  rw [l1_a h1 rfl, ln_w (sz := 12) hq rfl]
  refine bs_a (cs := encH e) (l := [(0 * 12, .a (encH e))]) tt142 rfl tt148 (by decide) rfl rfl fun q2 h4 hg4 hb4 hq1 hq2 => ?_
  have g1 := hb4.get hr (by simp) h1
  have gm := hb4.get hmb (by simp) hm
  have g2 := h2.keep hlv hb4 (.inr rfl)
  have gf := hf.keep hfv hb4 (.inr rfl)
  refine ap_vec (cs := encH e) (m := 1) tt142 rfl tt148 tt142 (by intro k e; cases e) rfl ?_ g2 rfl (encH_one _) (by unfold most; simp; omega) (by unfold most; omega) fun v5 h5 hv5 hb5 hq5 => ?_
  · simp only [fcells, hg4]
    rfl
  replace hv5 : VecE h5 v5 148 12 encH (es ++ [e]) := by
    unfold VecE
    rw [encs_app, encs_one, List.length_append]
    exact hv5
  have g5 := hb5.get (Nat.lt_of_lt_of_le hr hb4.1) (fun e => h3 e.symm) g1
  have gm5 := hb5.get (Nat.lt_of_lt_of_le hmb hb4.1) (fun e => hm2 e.symm) gm
  have hfv4 : ∀ z, vblk fv = some z → z < h4.next := fun z hz => Nat.lt_of_lt_of_le (hfv z hz) hb4.1
  have gf5 : VecE h5 fv 92 11 encL fx := by
    cases hc : vblk lv with
    | none => exact gf.keep hfv4 hb5 (.inr hc)
    | some z => exact gf.keep hfv4 hb5 (.inl (by rw [hc]; exact hf3 z hc))
  have hne : ∀ z, z < h.next → vblk lv ≠ some z → vblk v5 ≠ some z := by
    intro z hz hz2
    rcases hq5 with h | ⟨h, _⟩
    · rw [h]; exact hz2
    · rw [h]; intro e; cases e; have := hb4.1; omega
  have one5 : oneV v5 = true := by rcases hv5 with ⟨_, ⟨rfl, _⟩ | ⟨_, _, _, _, rfl, _⟩⟩ <;> rfl
  refine s1_a (o := 0 + 3) g5 (by simp) one5 fun h6 hg6 hb6 => ?_
  have hlt5 : ∀ q, vblk v5 = some q → q < h5.next := by
    intro z hz
    rcases hq5 with h | ⟨h, h'⟩
    · rw [h] at hz
      exact Nat.lt_of_lt_of_le (hlv z hz) (Nat.le_trans hb4.1 hb5.1)
    · rw [h] at hz; cases hz; exact h'
  refine K h6 (vblk v5) ⟨v5, fv, mb, k, hg6, hv5.keep hlt5 hb6 (.inl (hne r hr h3)), rfl, hne r hr h3, hb6.get (Nat.lt_of_lt_of_le hmb (Nat.le_trans hb4.1 hb5.1)) (by intro e; cases e; rw [h1] at hm; cases hm) gm5, hmo, gf5.keep (fun z hz => Nat.lt_of_lt_of_le (hfv4 z hz) hb5.1) hb6 (.inl hf2), hf2, fun z hz e => ?_⟩ ?_ (((hb4.two (.inl rfl)).trans (hb5.two (.inr (.inr rfl)))).trans (hb6.two (.inr (.inl rfl))))
  · rcases hq5 with h | ⟨h, _⟩
    · exact hf3 z (h.symm.trans hz) e
    · rw [h] at hz; cases hz
      have := hfv _ e
      have := hb4.1
      omega
  · rcases hq5 with h | ⟨h, _⟩
    · exact .inl h
    · exact .inr ⟨h4.next, h, hb4.1⟩
end Go.Proofs.Ytfkbofbdonmpfaa.Wb
