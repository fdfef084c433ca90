/- Sums of bytes: parts of slices, several slices' sum, sums that are turned: the walks. -/
import Derived.Test.YthmnfjaogoennaaSu3
set_option linter.unusedSimpArgs false
set_option linter.unusedVariables false
set_option linter.unusedSectionVars false
set_option linter.unnecessarySimpa false
set_option maxRecDepth 100000
namespace Go.Proofs.Ythmnfjaogoennaa.Wb
open Go.Am Go.Sum

theorem blt_t {a b : Nat} (h : a < b) : Nat.blt a b = true := Nat.ble_eq_true_of_le h
theorem beq_f {a b : Nat} (h : a ≠ b) : Nat.beq a b = false := by
  cases e : Nat.beq a b with
  | false => rfl
  | true => exact absurd (Nat.eq_of_beq_eq_true e) h

/-- A part of a slice of bytes. -/
theorem sc_bytes {h : H} {v : V} {bs : List UInt8} (hb : BytesAt h v bs) {lo hi : Nat} {lv hv : Option V} (h1 : lo ≤ hi) (h2 : hi ≤ bs.length) (hl : (lv = none ∧ lo = 0) ∨ ∃ k, lv = some (.i k (lo : Int))) (hh : (hv = none ∧ hi = bs.length) ∨ ∃ k, hv = some (.i k (hi : Int)))
    {κ : V → Prop} (K : ∀ v', BytesAt h v' ((bs.drop lo).take (hi - lo)) → (vblk v' = none ∨ vblk v' = vblk v) → κ v') : pw.sc xx 22 v lv hv none κ := by
  have hlo : ∀ lim, lo ≤ lim → bound lv 0 lim = some lo := by
    intro lim hle
    rcases hl with ⟨rfl, rfl⟩ | ⟨k, rfl⟩
    · rfl
    · show (bif Nat.ble lo lim then some lo else none) = _
      rw [Nat.ble_eq_true_of_le hle]; rfl
  have hhi : ∀ len lim, len = bs.length → hi ≤ lim → bound hv len lim = some hi := by
    intro len lim e hle
    rcases hh with ⟨rfl, rfl⟩ | ⟨k, rfl⟩
    · subst e; rfl
    · show (bif Nat.ble hi lim then some hi else none) = _
      rw [Nat.ble_eq_true_of_le hle]; rfl
  have key : ∀ v', slc xx 22 v lv hv none = some v' → BytesAt h v' ((bs.drop lo).take (hi - lo)) → (vblk v' = none ∨ vblk v' = vblk v) → pw.sc xx 22 v lv hv none κ := by
    intro v' e hb' hq
    show oP (slc xx 22 v lv hv none) κ
    rw [e]; exact K v' hb' hq
  cases v with
  | sl r o n c e =>
    obtain ⟨rfl, hc, l, t, w, h3, h4, h5⟩ := hb
    have e1 : slc xx 22 (.sl r o bs.length c e) lv hv none = goS r o bs.length c e 1 lv hv none := by
      simp only [slc, ti, tt22, tt5]
    have e2 : goS r o bs.length c e 1 lv hv none = bif Nat.beq c lo then (bif Nat.beq hi lo then (bif e then some (.se r o (o + lo * 1)) else some (.sl r o 0 0 false)) else none) else bif Nat.blt lo c then some (.sl r (o + lo * 1) (hi - lo) (c - lo) e) else none := by
      unfold goS
      have : bound none c c = some c := rfl
      simp only [this, hhi bs.length c rfl (by omega), hlo hi h1]
    by_cases hcl : c = lo
    · have hhl : hi = lo := by omega
      subst hhl; subst hcl
      rw [e2, Nat.beq_refl] at e1
      cases e with
      | true => exact key (.se r o (o + c * 1)) e1 (by rw [Nat.sub_self, List.take_zero]; exact (rfl : ([] : List UInt8) = [])) (.inl rfl)
      | false => exact key (.sl r o 0 0 false) e1 (by rw [Nat.sub_self, List.take_zero]; exact ⟨rfl, Nat.le_refl _, l, t, w, h3, by omega, fun i hi => by simp at hi⟩) (.inr rfl)
    · rw [e2, beq_f hcl, blt_t (by omega)] at e1
      refine key (.sl r (o + lo * 1) (hi - lo) (c - lo) e) e1 ⟨by simp; omega, by omega, l, t, w, h3, by omega, fun i hi' => ?_⟩ (.inr rfl)
      simp only [List.length_take, List.length_drop] at hi'
      rw [show o + lo * 1 + i = o + (lo + i) by omega, h5 _ (by omega)]
      congr 3
      simp only [List.getD_eq_getElem?_getD, List.getElem?_take, List.getElem?_drop]
      rw [if_pos (by omega)]
  | ns =>
    obtain rfl : bs = [] := hb
    obtain rfl : hi = 0 := by simpa using h2
    obtain rfl : lo = 0 := by omega
    refine key .ns ?_ rfl (.inl rfl)
    simp only [slc, ti, tt22, tt5, goE, show bound none 0 0 = some 0 from rfl, hhi 0 0 rfl (Nat.le_refl _), hlo 0 (Nat.le_refl _)]
  | ze r =>
    obtain rfl : bs = [] := hb
    obtain rfl : hi = 0 := by simpa using h2
    obtain rfl : lo = 0 := by omega
    refine key (.ze r) ?_ rfl (.inl rfl)
    simp only [slc, ti, tt22, tt5, goE, show bound none 0 0 = some 0 from rfl, hhi 0 0 rfl (Nat.le_refl _), hlo 0 (Nat.le_refl _)]
  | se r a b =>
    obtain rfl : bs = [] := hb
    obtain rfl : hi = 0 := by simpa using h2
    obtain rfl : lo = 0 := by omega
    refine key (.se r a b) ?_ rfl (.inl rfl)
    simp only [slc, ti, tt22, tt5, goE, show bound none 0 0 = some 0 from rfl, hhi 0 0 rfl (Nat.le_refl _), hlo 0 (Nat.le_refl _)]
  | _ => exact (show False from hb).elim
end Go.Proofs.Ythmnfjaogoennaa.Wb
