/- Who has which address: few leases in any order are put in some order. -/
import Derived.Test.YtfkbofbdonmpfaaPq5
set_option linter.unusedSimpArgs false
set_option linter.unusedVariables false
set_option linter.unusedSectionVars false
set_option linter.unnecessarySimpa false
set_option maxRecDepth 100000
namespace Go.Proofs.Ytfkbofbdonmpfaa.Wb
open Go.Am

/-- A function value that compares leases, whatever it says. -/
def AnyC (n0 : Nat) (h0 : H) (c : Option Nat) (clo : V) (P : Le → Prop) : Prop := ∀ n, n0 ≤ n → ∀ a b, P a → P b → ∀ (h : H) (K : V → H → Prop), Bd h → But h0 h c → (∀ h' z, Bd h' → But h h' none → K (.i .i64 z) h') → pw.cl (Ok Try.prog n) clo [.a (encL a), .a (encL b)] h K

theorem insp_ok {n n0 : Nat} (hn : n0 + 1 ≤ n) {v clo : V} {es : List Le} (hl : es.length ≤ 1000) {P : Le → Prop} (hP : ∀ e ∈ es, P e) {h : H} {K : V → H → Prop} (hv : VecE h v 92 11 encL es) (hc : AnyC n0 h (vblk v) clo P) (hk : ∀ h' es', Bd h' → But h h' (vblk v) → VecE h' v 92 11 encL es' → es'.Perm es → K (.t []) h') : Ok Try.prog n 186 [v, .i .i64 0, .i .i64 (es.length : Nat), clo] h K := by
  obtain ⟨n, rfl⟩ := Nat.exists_eq_add_of_le' (show 1 ≤ n by omega)
  refine K186 fun hbd => ?_
  simp (disch := omega) only [F186, ws]
  have main : ∀ (fuel k : Nat) (h' : H) (cur : List Le), es.length + 1 < fuel + k → 1 ≤ k → k ≤ es.length + 1 → Bd h' → But h h' (vblk v) → VecE h' v 92 11 encL cur → cur.Perm es → F186_8 pw xx (Ok Try.prog n) K fuel v (.i .i64 0) (.i .i64 (es.length : Nat)) clo (.i .i64 (k : Nat)) h' := by
    intro fuel
    induction fuel with
    | zero => intro k h' cur a1 a2; omega
    | succ fuel ih =>
      intro k h' cur a1 a2 a3 hbd' hb hv' hp
      rw [S186_8]
      by_cases hlt : k < es.length
      · simp (disch := omega) only [ws, dec_t, F186_14]
        have inner : ∀ (f2 j : Nat) (h2 : H) (cur : List Le), j < f2 → j ≤ k → Bd h2 → But h h2 (vblk v) → VecE h2 v 92 11 encL cur → cur.Perm es → F186_31 pw xx (Ok Try.prog n) K (F186_8 pw xx (Ok Try.prog n) K fuel) f2 v (.i .i64 0) (.i .i64 (es.length : Nat)) clo (.i .i64 (k : Nat)) (.i .i64 (j : Nat)) h2 := by
          intro f2
          induction f2 with
          | zero => intro j h2 cur b1; omega
          | succ f2 ih2 =>
            intro j h2 cur b1 b2 hbd2 hb2 hv2 hp2
            have hcl : cur.length = es.length := hp2.length_eq
            have out : ∀ h3, Bd h3 → But h h3 (vblk v) → VecE h3 v 92 11 encL cur → F186_20 pw xx (Ok Try.prog n) K (F186_8 pw xx (Ok Try.prog n) K fuel) v (.i .i64 0) (.i .i64 (es.length : Nat)) clo (.i .i64 (k : Nat)) h3 := by
              intro h3 hbd3 hb3 hv3
              simp (disch := omega) only [F186_20, ws]
              exact ih (k + 1) h3 cur (by omega) (by omega) (by omega) hbd3 hb3 hv3 hp2
            rw [S186_31]
            by_cases hj : 0 < j
            · simp (disch := omega) only [ws, dec_t]
              refine vece_at encL_len hv2 (i := j) rfl (by omega) fun b ha => ?_
              simp (disch := omega) only [ws, ha.all]
              refine vece_at encL_len hv2 (i := j - 1) (by omega) (by omega) fun b2 ha2 => ?_
              simp (disch := omega) only [ws, ha2.all]
              refine hc n (by omega) cur[j] cur[j - 1] (hP _ (hp2.mem_iff.1 (List.getElem_mem _))) (hP _ (hp2.mem_iff.1 (List.getElem_mem _))) h2 _ hbd2 hb2 fun h3 z hbd3 hb3 => ?_
              have hb03 : But h h3 (vblk v) := hb2.trans (hb3.none _)
              have hv3 := hv2.keep (hv2.lt hbd2) hb3 (.inr rfl)
              by_cases hz : z < 0
              · simp (disch := omega) only [ws, dec_t hz, F186_38]
                refine vece_at encL_len hv3 (i := j - 1) (by omega) (by omega) fun b4 ha4 => ?_
                simp (disch := omega) only [ws, ha4.all]
                refine vece_at encL_len hv3 (i := j) rfl (by omega) fun b5 ha5 => ?_
                simp (disch := omega) only [ws, ha5.all]
                refine vece_at encL_len hv3 (i := j) rfl (by omega) fun b6 ha6 => ?_
                refine vece_set encL_len hv3 (i := j) (by omega) ha6.blk (e' := cur[j - 1]) (encL_one _) fun h4 hv4 hb4 => ?_
                refine vece_at encL_len hv4 (i := j - 1) (by omega) (by rw [List.length_set]; omega) fun b7 ha7 => ?_
                refine vece_set encL_len hv4 (i := j - 1) (by rw [List.length_set]; omega) ha7.blk (e' := cur[j]) (encL_one _) fun h5 hv5 hb5 => ?_
                simp (disch := omega) only [F186_45, ws]
                rw [show (j : Int) - 1 = ((j - 1 : Nat) : Int) by omega]
                refine ih2 (j - 1) h5 _ (by omega) (by omega) (hb5.2.2 (hb4.2.2 hbd3)) ((hb03.trans hb4).trans hb5) hv5 (List.Perm.trans ?_ hp2)
                exact List.set_set_perm (by omega) (by omega)
              · simp (disch := omega) only [ws, dec_f hz]
                exact out h3 hbd3 hb03 hv3
            · simp (disch := omega) only [ws, dec_f]
              exact out h2 hbd2 hb2 hv2
        exact inner 100000 k h' cur (by omega) (by omega) hbd' hb hv' hp
      · simp (disch := omega) only [ws, dec_f]
        exact hk h' cur hbd' hb hv' hp
  exact main 100000 1 h es (by omega) (by omega) (by omega) hbd (But.refl _ _) hv (List.Perm.refl _)

/-- SortFunc of at most twelve. -/
theorem srtp_ok {n n0 : Nat} (h5 : 3 ≤ n0) (hn : n0 + 6 ≤ n) {v clo : V} {es : List Le} (hl : es.length ≤ 12) {P : Le → Prop} (hP : ∀ e ∈ es, P e) {h : H} {K : V → H → Prop} (hv : VecE h v 92 11 encL es) (hc : AnyC n0 h (vblk v) clo P) (hk : ∀ h' es', Bd h' → But h h' (vblk v) → VecE h' v 92 11 encL es' → es'.Perm es → K (.t []) h') : Ok Try.prog n 148 [v, clo] h K := by
  obtain ⟨n, rfl⟩ := Nat.exists_eq_add_of_le' (show 6 ≤ n by omega)
  refine K148 (n := n + 5) fun hbd => ?_
  simp (disch := omega) only [F148, vece_len tt89 rfl hv, ws]
  refine len_ok (by omega) fun h1 k hbd1 hb1 hk1 => ?_
  have hv1 := hv.keep (hv.lt hbd) hb1 (.inr rfl)
  refine K170 (n := n + 4) fun _ => ?_
  simp only [F170]
  rw [show (100000 : Nat) = 99999 + 1 from rfl, S170_8]
  simp (disch := omega) only [ws, dec_t]
  refine insp_ok (n0 := n0) (by omega) (by omega) hP hv1 (fun n hn a b ha hb h K hbd hb2 k => hc n hn a b ha hb h K hbd ((hb1.none _).trans hb2) k) fun h2 es' hbd2 hb2 hv2 hp => hk h2 es' hbd2 ((hb1.none _).trans hb2) hv2 hp

theorem any149 {h0 : H} {c : Option Nat} : AnyC 3 h0 c (.f 149 []) fun e => 0 ≤ e.a ∧ e.a ≤ 255 := by
  intro n hn a b ha hb h K hbd hb2 k
  rw [cl_k]
  exact cl149_ok (by omega) ha hb fun h' hbd' hb' => k h' _ hbd' hb'

/-- 'sorted' of at most twelve. -/
theorem sortedp_ok {n : Nat} (hn : 10 ≤ n) {v : V} {es : List Le} (hl : es.length ≤ 12) (hr : ∀ e ∈ es, 0 ≤ e.a ∧ e.a ≤ 255) {h : H} {K : V → H → Prop} (hv : VecE h v 92 11 encL es) (hk : ∀ h' es', Bd h' → But h h' (vblk v) → VecE h' v 92 11 encL es' → es'.Perm es → K v h') : Ok Try.prog n 97 [v] h K := by
  obtain ⟨n, rfl⟩ := Nat.exists_eq_add_of_le' (show 1 ≤ n by omega)
  refine K97 fun hbd => ?_
  simp only [F97, cf_k]
  exact srtp_ok (n0 := 3) (by omega) (by omega) hl hr hv any149 hk
end Go.Proofs.Ytfkbofbdonmpfaa.Wb
