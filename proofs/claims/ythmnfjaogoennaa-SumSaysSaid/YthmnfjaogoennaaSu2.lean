/- Sums of bytes: the walks. -/
import Derived.Test.YthmnfjaogoennaaWa0
import Derived.Test.YthmnfjaogoennaaM3
import Derived.Test.YthmnfjaogoennaaSu1
set_option linter.unusedSimpArgs false
set_option linter.unusedVariables false
set_option linter.unusedSectionVars false
set_option linter.unnecessarySimpa false
set_option maxRecDepth 100000
namespace Go.Proofs.Ythmnfjaogoennaa.Wb
open Go.Am Go.Sum

noncomputable abbrev xx : X := mkX Try.prog


theorem add_ok {n : Nat} (hn : 1 ≤ n) {a b : Int} {h : H} {K : V → H → Prop} (hk : K (.i .i64 (addI a b)) h) : Ok Try.prog n 17 [.i .i64 a, .i .i64 b] h K := by
  obtain ⟨n, rfl⟩ := Nat.exists_eq_add_of_le' hn
  refine K17 fun _ => ?_
  simp (disch := omega) only [F17, ws]
  exact hk

theorem ls22 {h : H} {v : V} {bs : List UInt8} (hb : BytesAt h v bs) {κ : V → Prop} : pw.ls xx 22 v κ = κ (.i .i64 bs.length) := by
  exact bytes_len tt22 rfl hb

theorem gd_eq {bs : List UInt8} {k : Nat} (h : k < bs.length) : bs.getD k 0 = bs[k] := by
  rw [List.getD_eq_getElem?_getD, List.getElem?_eq_getElem h]; rfl
theorem wsum_drop2 {bs : List UInt8} {k : Nat} (h : k + 1 < bs.length) : wsum (bs.drop k) = (bs.getD k 0).toNat * 256 + (bs.getD (k + 1) 0).toNat + wsum (bs.drop (k + 2)) := by
  rw [List.drop_eq_getElem_cons (by omega), List.drop_eq_getElem_cons (i := k + 1) (by omega), wsum_cons2, gd_eq (by omega), gd_eq (by omega)]
theorem wsum_drop1 {bs : List UInt8} {k : Nat} (h : k + 1 = bs.length) : wsum (bs.drop k) = (bs.getD k 0).toNat * 256 := by
  rw [List.drop_eq_getElem_cons (by omega), List.drop_eq_nil_of_le (by omega), gd_eq (by omega)]
  rfl

theorem pairs_loop {n : Nat} (hn : 1 ≤ n) {v : V} {bs : List UInt8} {h : H} {K : V → H → Prop} (hb : BytesAt h v bs) (hl : bs.length ≤ 1000000000) : ∀ (fuel k s : Nat), bs.length < 2 * fuel + k → k % 2 = 0 → k ≤ bs.length → s ≤ 65535 → K (.i .i64 (nrm (s + wsum (bs.drop k)) : Nat)) h →
    F32_27 pw xx (Ok Try.prog n) K fuel (.i .i64 s) v (.i .i64 k) h := by
  intro fuel
  induction fuel with
  | zero => intro k s h1 h2 h3; omega
  | succ fuel ih =>
    intro k s h1 h2 h3 h4 hk
    rw [S32_27]
    by_cases hlt : k + 1 < bs.length
    · have hd : decide ((k : Int) + 1 < bs.length) = true := decide_eq_true (by omega)
      simp (disch := omega) only [ws, ls22 hb, hd, F32_31]
      have b1 := byt_lt bs k
      have b2 := byt_lt bs (k + 1)
      rw [bytes_get hb (i := k) rfl (by omega)]
      simp (disch := omega) only [ws]
      rw [bytes_get hb (i := k + 1) (by omega) (by omega)]
      simp (disch := omega) only [ws]
      refine add_ok hn ?_
      simp (disch := omega) only [ws, F32_35]
      have e : addI (s : Int) (((bs.getD k 0).toNat : Int) * 256 + ((bs.getD (k + 1) 0).toNat : Int)) = (nrm (s + ((bs.getD k 0).toNat * 256 + (bs.getD (k + 1) 0).toNat)) : Nat) := by
        rw [← addI_nrm _ _ (by omega) (by omega)]; push_cast; rfl
      rw [e]
      refine ih (k + 2) _ (by omega) (by omega) (by omega) (nrm_lt _) ?_
      rw [nrm_add, Nat.add_assoc, ← wsum_drop2 hlt]
      exact hk
    · have hd : decide ((k : Int) + 1 < bs.length) = false := decide_eq_false (by omega)
      simp (disch := omega) only [ws, ls22 hb, hd, F32_4]
      by_cases ho : k + 1 = bs.length
      · have hd : decide ((bs.length : Int) % 2 = 1) = true := decide_eq_true (by omega)
        simp (disch := omega) only [ws, hd]
        have b1 := byt_lt bs k
        rw [bytes_get hb (i := k) (by omega) (by omega)]
        simp (disch := omega) only [ws]
        refine add_ok hn ?_
        simp (disch := omega) only [ws, F32_7]
        have e : addI (s : Int) (((bs.getD k 0).toNat : Int) * 256) = (nrm (s + (bs.getD k 0).toNat * 256) : Nat) := by
          rw [← addI_nrm _ _ (by omega) (by omega)]; push_cast; rfl
        rw [e, ← wsum_drop1 ho]
        exact hk
      · have hd : decide ((bs.length : Int) % 2 = 1) = false := decide_eq_false (by omega)
        simp (disch := omega) only [ws, hd, F32_7]
        rw [List.drop_eq_nil_of_le (by omega), show wsum [] = 0 from rfl, Nat.add_zero, nrm_small h4] at hk
        exact hk

/-- 'Of', of any bytes. -/
def sOf (bs : List UInt8) : Nat := 65535 - nrm (wsum bs)
theorem sOf_lt (bs : List UInt8) : sOf bs ≤ 65535 := by unfold sOf; omega
theorem of_ok {n : Nat} (hn : 3 ≤ n) {v : V} {bs : List UInt8} {h : H} {K : V → H → Prop} (hb : BytesAt h v bs) (hl : bs.length < 200000) (hk : K (.i .i64 (sOf bs)) h) : Ok Try.prog n 16 [v] h K := by
  obtain ⟨n, rfl⟩ := Nat.exists_eq_add_of_le' hn
  refine K16 fun _ => ?_
  simp (disch := omega) only [F16, ws]
  refine K32 fun _ => ?_
  simp (disch := omega) only [F32]
  refine pairs_loop (by omega) hb (by omega) 100000 0 0 (by omega) rfl (by omega) (by omega) ?_
  have := nrm_lt (wsum bs)
  simp (disch := omega) only [List.drop_zero, Nat.zero_add, ws]
  rw [show ((65535 : Int) - (nrm (wsum bs) : Nat)) = (sOf bs : Nat) by unfold sOf; omega]
  exact hk

theorem fits_ok {n : Nat} (hn : 4 ≤ n) {v : V} {bs : List UInt8} {h : H} {K : V → H → Prop} (hb : BytesAt h v bs) (hl : bs.length < 200000) (hk : K (.b (decide (sOf bs = 0))) h) : Ok Try.prog n 18 [v] h K := by
  obtain ⟨n, rfl⟩ := Nat.exists_eq_add_of_le' hn
  refine K18 fun _ => ?_
  simp (disch := omega) only [F18, ws]
  refine of_ok (by omega) hb hl ?_
  simp (disch := omega) only [ws]
  rw [show (decide ((sOf bs : Int) = 0)) = decide (sOf bs = 0) from by congr 1; exact propext ⟨fun h => by omega, fun h => by omega⟩]
  exact hk

/-- What the law looks at first. -/
theorem awake_ok {n : Nat} (hn : 5 ≤ n) {h : H} {K : V → H → Prop} (hk : ∀ h', Bd h' → But h h' none → K (.b true) h') : Ok Try.prog n 15 [] h K := by
  refine Ok.bd ?_
  obtain ⟨n, rfl⟩ := Nat.exists_eq_add_of_le' hn
  refine K15 fun hbd => ?_
  simp (disch := omega) only [F15]
  rw [bs_ok tt22 rfl tt5 (by decide) rfl rfl]
  simp (disch := omega) only [ws]
  refine of_ok (bs := [0, 1]) (by omega) ⟨rfl, Nat.le_refl _, _, _, _, get_same, by simp, fun i hi => ?_⟩ (by simp) ?_
  · match i, hi with
    | 0, _ => rfl
    | 1, _ => rfl
  · simp (disch := omega) only [ws, show ((sOf [0, 1] : Nat) : Int) = 65534 by decide, decide_true]
    refine add_ok (by omega) ?_
    simp (disch := omega) only [ws, show addI 65535 1 = 1 by decide, decide_true]
    exact fun hb => hk _ hb (But.new _ _ _)
end Go.Proofs.Ythmnfjaogoennaa.Wb
