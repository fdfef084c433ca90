/- Who has which address: leases that stand in order are put in order. -/
import Derived.Test.YtfkbofbdonmpfaaPq1
import Derived.Test.YtfkbofbdonmpfaaM4
set_option linter.unusedSimpArgs false
set_option linter.unusedVariables false
set_option linter.unusedSectionVars false
set_option linter.unnecessarySimpa false
set_option maxRecDepth 100000
namespace Go.Proofs.Ytfkbofbdonmpfaa.Wb
open Go.Am

noncomputable def lenRun (m d n : Nat) : Bool := match sem xx 100000 (d + 5) 169 [.i .u64 (n : Nat)] ⟨m, .l⟩ with
  | some (.i .i64 k, _) => decide (n ≤ 12) || decide (k ≠ 0)
  | _ => false
theorem lenRun_ok (m d : Nat) : (List.range 65).all (lenRun m d) = true := by kernel_rfl
theorem len_ok {n d : Nat} (hn : n ≤ 64) {h : H} {K : V → H → Prop} (hk : ∀ h' k, Bd h' → But h h' none → (12 < n → k ≠ 0) → K (.i .i64 k) h') : Ok Try.prog (d + 5) 169 [.i .u64 (n : Nat)] h K := by
  have h1 := List.all_eq_true.1 (lenRun_ok h.next d) n (List.mem_range.2 (by omega))
  unfold lenRun at h1
  split at h1
  · rename_i k h' e
    refine ok_run e ⟨rfl, fun r b hb => by simp [T.get] at hb⟩ fun g' hb fr => hk g' k hb ⟨Nat.le_trans fr.2.1 (Nat.le_of_eq fr.1.1.symm), fun q hq _ => (fr.2.2 q hq (by simp [T.get])).2, fun _ => hb⟩ fun h2 => ?_
    rw [Bool.or_eq_true, decide_eq_true_iff, decide_eq_true_iff] at h1
    omega
  · cases h1

/-- A function value that finds the leases in order. -/
def SrtC (n0 : Nat) (h0 : H) (clo : V) (es : List Le) : Prop := ∀ n, n0 ≤ n → ∀ i j (hi : i < es.length) (hj : j < es.length), i < j → ∀ (h : H) (K : V → H → Prop), Bd h → But h0 h none → (∀ h' z, Bd h' → But h h' none → 0 ≤ z → K (.i .i64 z) h') → pw.cl (Ok Try.prog n) clo [.a (encL es[j]), .a (encL es[i])] h K
theorem SrtC.later {n0 : Nat} {h0 h1 : H} {clo : V} {es : List Le} (hc : SrtC n0 h0 clo es) (hk : But h0 h1 none) : SrtC n0 h1 clo es := fun n hn i j hi hj hij h K hb hk2 k => hc n hn i j hi hj hij h K hb (hk.trans hk2) k

theorem ins_ok {n n0 : Nat} (hn : n0 + 1 ≤ n) {v clo : V} {es : List Le} (hl : es.length ≤ 1000) {h : H} {K : V → H → Prop} (hv : VecE h v 92 11 encL es) (hc : SrtC n0 h clo es) (hk : ∀ h', Bd h' → But h h' none → K (.t []) h') : Ok Try.prog n 186 [v, .i .i64 0, .i .i64 (es.length : Nat), clo] h K := by
  obtain ⟨n, rfl⟩ := Nat.exists_eq_add_of_le' (show 1 ≤ n by omega)
  refine K186 fun hbd => ?_
  simp (disch := omega) only [F186, ws]
  have main : ∀ (fuel k : Nat) (h' : H), es.length + 1 < fuel + k → 1 ≤ k → k ≤ es.length + 1 → Bd h' → But h h' none → F186_8 pw xx (Ok Try.prog n) K fuel v (.i .i64 0) (.i .i64 (es.length : Nat)) clo (.i .i64 (k : Nat)) h' := by
    intro fuel
    induction fuel with
    | zero => intro k h' a1 a2; omega
    | succ fuel ih =>
      intro k h' a1 a2 a3 hbd' hb
      rw [S186_8]
      by_cases hlt : k < es.length
      · simp (disch := omega) only [ws, dec_t, F186_14]
        have hv' := hv.keep (hv.lt hbd) hb (.inr rfl)
        rw [show (100000 : Nat) = 99999 + 1 from rfl, S186_31]
        simp (disch := omega) only [ws, dec_t]
        refine vece_at encL_len hv' (i := k) rfl hlt fun b ha => ?_
        simp (disch := omega) only [ws, ha.all]
        refine vece_at encL_len hv' (i := k - 1) (by omega) (by omega) fun b2 ha2 => ?_
        simp (disch := omega) only [ws, ha2.all]
        refine hc n (by omega) (k - 1) k (by omega) hlt (by omega) h' _ hbd' hb fun h2 z hbd2 hb2 hz => ?_
        simp (disch := omega) only [ws, dec_f, F186_20]
        exact ih (k + 1) h2 (by omega) (by omega) (by omega) hbd2 (hb.trans hb2)
      · simp (disch := omega) only [ws, dec_f]
        exact hk h' hbd' hb
  exact main 100000 1 h (by omega) (by omega) (by omega) hbd (But.refl _ _)

theorem ord_ok {n n0 : Nat} (hn : n0 + 1 ≤ n) {v w clo : V} {es : List Le} {i j : Nat} (hj : j < es.length) (hij : i < j) {h : H} {K : V → H → Prop} (hv : VecE h v 92 11 encL es) (hc : SrtC n0 h clo es) (hk : ∀ h', Bd h' → But h h' none → K (.t [.i .i64 (i : Nat), .i .i64 (j : Nat)]) h') : Ok Try.prog n 203 [v, .i .i64 (i : Nat), .i .i64 (j : Nat), w, clo] h K := by
  obtain ⟨n, rfl⟩ := Nat.exists_eq_add_of_le' (show 1 ≤ n by omega)
  refine K203 fun hbd => ?_
  simp (disch := omega) only [F203, ws]
  refine vece_at encL_len hv (i := j) rfl hj fun b ha => ?_
  simp (disch := omega) only [ws, ha.all]
  refine vece_at encL_len hv (i := i) rfl (by omega) fun b2 ha2 => ?_
  simp (disch := omega) only [ws, ha2.all]
  refine hc n (by omega) i j (by omega) hj hij h _ hbd (But.refl _ _) fun h2 z hbd2 hb2 hz => ?_
  simp (disch := omega) only [ws, dec_f, F203_8]
  exact hk h2 hbd2 hb2
theorem med_ok {n n0 : Nat} (hn : n0 + 2 ≤ n) {v w clo : V} {es : List Le} {i j k : Nat} (hk' : k < es.length) (hij : i < j) (hjk : j < k) {h : H} {K : V → H → Prop} (hv : VecE h v 92 11 encL es) (hc : SrtC n0 h clo es) (hk : ∀ h', Bd h' → But h h' none → K (.i .i64 (j : Nat)) h') : Ok Try.prog n 201 [v, .i .i64 (i : Nat), .i .i64 (j : Nat), .i .i64 (k : Nat), w, clo] h K := by
  obtain ⟨n, rfl⟩ := Nat.exists_eq_add_of_le' (show 1 ≤ n by omega)
  refine K201 fun hbd => ?_
  simp (disch := omega) only [F201, cf_k]
  refine ord_ok (n0 := n0) (by omega) (by omega) hij hv hc fun h2 hbd2 hb2 => ?_
  simp (disch := omega) only [ws, List.getElem?_cons_zero, List.getElem?_cons_succ]
  refine ord_ok (n0 := n0) (by omega) hk' hjk (hv.keep (hv.lt hbd) hb2 (.inr rfl)) (hc.later hb2) fun h3 hbd3 hb3 => ?_
  simp (disch := omega) only [ws, List.getElem?_cons_zero, List.getElem?_cons_succ]
  have hb13 := hb2.trans hb3
  refine ord_ok (n0 := n0) (by omega) (by omega) hij (hv.keep (hv.lt hbd) hb13 (.inr rfl)) (hc.later hb13) fun h4 hbd4 hb4 => ?_
  simp (disch := omega) only [ws, List.getElem?_cons_zero, List.getElem?_cons_succ]
  exact hk h4 hbd4 (hb13.trans hb4)
theorem adj_ok {n n0 : Nat} (hn : n0 + 3 ≤ n) {v w clo : V} {es : List Le} {j : Nat} (hj : j + 1 < es.length) (h1 : 1 ≤ j) (hl : es.length ≤ 1000) {h : H} {K : V → H → Prop} (hv : VecE h v 92 11 encL es) (hc : SrtC n0 h clo es) (hk : ∀ h', Bd h' → But h h' none → K (.i .i64 (j : Nat)) h') : Ok Try.prog n 200 [v, .i .i64 (j : Nat), w, clo] h K := by
  obtain ⟨n, rfl⟩ := Nat.exists_eq_add_of_le' (show 1 ≤ n by omega)
  refine K200 fun hbd => ?_
  simp (disch := omega) only [F200, ws]
  rw [show (j : Int) - 1 = ((j - 1 : Nat) : Int) by omega, show (j : Int) + 1 = ((j + 1 : Nat) : Int) by omega]
  exact med_ok (n0 := n0) (by omega) hj (by omega) (by omega) hv hc hk

theorem piv_ok {n n0 : Nat} (hn : n0 + 4 ≤ n) {v clo : V} {es : List Le} (hl8 : 8 ≤ es.length) (hl : es.length ≤ 1000) {h : H} {K : V → H → Prop} (hv : VecE h v 92 11 encL es) (hc : SrtC n0 h clo es) (hk : ∀ h' j, Bd h' → But h h' none → K (.t [.i .i64 j, .i .i64 1]) h') : Ok Try.prog n 189 [v, .i .i64 0, .i .i64 (es.length : Nat), clo] h K := by
  obtain ⟨n, rfl⟩ := Nat.exists_eq_add_of_le' (show 1 ≤ n by omega)
  refine Ok.bd (K189 fun hbd => ?_)
  simp (disch := omega) only [F189, ws]
  refine al_a tt3 fun q h1 hq hb1 hq1 hq2 => ?_
  have hbd1 := hb1.2.2 hbd
  have hv1 := hv.keep (hv.lt hbd) hb1 (.inr rfl)
  have hc1 := hc.later hb1
  simp (disch := omega) only [ws, dec_t]
  obtain ⟨d, hd⟩ : ∃ d : Nat, es.length / 4 = d := ⟨_, rfl⟩
  have e1 : (0 : Int) + ((es.length : Int) - 0) / 4 * 1 = (d : Nat) := by omega
  have e2 : (0 : Int) + ((es.length : Int) - 0) / 4 * 2 = (2 * d : Nat) := by omega
  have e3 : (0 : Int) + ((es.length : Int) - 0) / 4 * 3 = (3 * d : Nat) := by omega
  simp only [e1, e2, e3]
  have fin : ∀ h2, Bd h2 → But h1 h2 none → F189_49 pw xx (Ok Try.prog n) (fun v h' => Bd h' → K v h') v clo (.p q 0) (.i .i64 (d : Nat)) (.i .i64 (2 * d : Nat)) (.i .i64 (3 * d : Nat)) h2 := by
    intro h2 hbd2 hb2
    simp (disch := omega) only [F189_49, cf_k]
    refine med_ok (n0 := n0) (by omega) (by omega) (by omega) (by omega) (hv1.keep (hv1.lt hbd1) hb2 (.inr rfl)) (hc1.later hb2) fun h3 hbd3 hb3 => ?_
    have hq3 := (hb2.trans hb3).get hq2 (by simp) hq
    simp (disch := omega) only [F189_30]
    rw [l1_a hq3 (show _ = some (V.i .i64 0) from rfl)]
    simp (disch := omega) only [ws, decide_true, dec_t]
    exact fun hb => hk h3 _ hb (hb1.trans (hb2.trans hb3))
  by_cases c1 : 50 ≤ es.length
  · simp (disch := omega) only [ws, dec_t]
    refine adj_ok (n0 := n0) (by omega) (by omega) (by omega) hl hv1 hc1 fun h2 hbd2 hb2 => ?_
    refine adj_ok (n0 := n0) (by omega) (by omega) (by omega) hl (hv1.keep (hv1.lt hbd1) hb2 (.inr rfl)) (hc1.later hb2) fun h3 hbd3 hb3 => ?_
    have hb13 := hb2.trans hb3
    refine adj_ok (n0 := n0) (by omega) (by omega) (by omega) hl (hv1.keep (hv1.lt hbd1) hb13 (.inr rfl)) (hc1.later hb13) fun h4 hbd4 hb4 => ?_
    exact fin h4 hbd4 (hb13.trans hb4)
  · simp (disch := omega) only [ws, dec_f]
    exact fin h1 hbd1 (But.refl _ _)

theorem part_ok {n n0 : Nat} (hn : n0 + 1 ≤ n) {v clo : V} {es : List Le} (hl1 : 1 ≤ es.length) (hl : es.length ≤ 1000) {h : H} {K : V → H → Prop} (hv : VecE h v 92 11 encL es) (hc : SrtC n0 h clo es) (hk : ∀ h', Bd h' → But h h' none → K (.b true) h') : Ok Try.prog n 191 [v, .i .i64 0, .i .i64 (es.length : Nat), clo] h K := by
  obtain ⟨n, rfl⟩ := Nat.exists_eq_add_of_le' (show 1 ≤ n by omega)
  refine K191 fun hbd => ?_
  simp (disch := omega) only [F191, ws]
  rw [show (100000 : Nat) = 99999 + 1 from rfl, S191_12]
  simp (disch := omega) only [ws, dec_t, F191_19]
  have main : ∀ (i12 : V → V → V → V → V → V → H → Prop) (fuel k : Nat) (h' : H), es.length < fuel + k → 1 ≤ k → k ≤ es.length → Bd h' → But h h' none → F191_242 pw xx (Ok Try.prog n) K i12 fuel v (.i .i64 0) (.i .i64 (es.length : Nat)) clo (.i .i64 (k : Nat)) (.i .i64 0) h' := by
    intro i12 fuel
    induction fuel with
    | zero => intro k h' a1 a2; omega
    | succ fuel ih =>
      intro k h' a1 a2 a3 hbd' hb
      rw [S191_242]
      by_cases hlt : k < es.length
      · have hv' := hv.keep (hv.lt hbd) hb (.inr rfl)
        simp (disch := omega) only [ws, dec_t]
        refine vece_at encL_len hv' (i := k) rfl hlt fun b ha => ?_
        simp (disch := omega) only [ws, ha.all]
        refine vece_at encL_len hv' (i := k - 1) (by omega) (by omega) fun b2 ha2 => ?_
        simp (disch := omega) only [ws, ha2.all]
        refine hc n (by omega) (k - 1) k (by omega) hlt (by omega) h' _ hbd' hb fun h2 z hbd2 hb2 hz => ?_
        simp (disch := omega) only [ws, dec_f, Bool.not_false, F191_249]
        exact ih (k + 1) h2 (by omega) (by omega) (by omega) hbd2 (hb.trans hb2)
      · simp (disch := omega) only [ws, dec_f, F191_36, dec_t]
        exact hk h' hbd' hb
  exact main _ 100000 1 h (by omega) (by omega) (by omega) hbd (But.refl _ _)

theorem srt_ok {n n0 : Nat} (hn : 5 ≤ n0) (hn : n0 + 6 ≤ n) {v clo : V} {es : List Le} (hl : es.length ≤ 64) {h : H} {K : V → H → Prop} (hv : VecE h v 92 11 encL es) (hc : SrtC n0 h clo es) (hk : ∀ h', Bd h' → But h h' none → K (.t []) h') : Ok Try.prog n 148 [v, clo] h K := by
  obtain ⟨n, rfl⟩ := Nat.exists_eq_add_of_le' (show 6 ≤ n by omega)
  refine K148 (n := n + 5) fun hbd => ?_
  simp (disch := omega) only [F148, vece_len tt89 rfl hv, ws]
  refine len_ok hl fun h1 k hbd1 hb1 hk1 => ?_
  have hv1 := hv.keep (hv.lt hbd) hb1 (.inr rfl)
  have hc1 := hc.later hb1
  refine K170 (n := n + 4) fun _ => ?_
  simp only [F170]
  rw [show (100000 : Nat) = 99999 + 1 from rfl, S170_8]
  by_cases c1 : es.length ≤ 12
  · simp (disch := omega) only [ws, dec_t]
    exact ins_ok (n0 := n0) (by omega) (by omega) hv1 hc1 fun h2 hbd2 hb2 => hk h2 hbd2 (hb1.trans hb2)
  · have hk0 := hk1 (by omega)
    simp (disch := omega) only [ws, dec_f, F170_20, dec_f hk0, F170_29, Bool.not_true, F170_38]
    refine piv_ok (n0 := n0) (by omega) (by omega) (by omega) hv1 hc1 fun h2 j hbd2 hb2 => ?_
    simp (disch := omega) only [ws, List.getElem?_cons_zero, List.getElem?_cons_succ, dec_f, F170_57, decide_true, dec_t]
    refine part_ok (n0 := n0) (by omega) (by omega) (by omega) (hv1.keep (hv1.lt hbd1) hb2 (.inr rfl)) (hc1.later hb2) fun h3 hbd3 hb3 => ?_
    simp (disch := omega) only [ws]
    exact hk h3 hbd3 (hb1.trans (hb2.trans hb3))
end Go.Proofs.Ytfkbofbdonmpfaa.Wb
