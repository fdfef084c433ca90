/- Sums of any bytes, of any parts, turned in any way, are as the reference tells them: SumSays returns true, whatever the arguments. No condition. -/
import Derived.Test.YthmnfjaogoennaaRows
import Derived.Test.YthmnfjaogoennaaFactsYthm
import Derived.Test.YthmnfjaogoennaaM3
import Derived.Test.YthmnfjaogoennaaSu8
import Derived.WalkKit
set_option maxRecDepth 100000
namespace Go.Proofs.Ythmnfjaogoennaa.sumSays
open Go.ChangeShapes Go.WideShapes Go.ChangeAt Go.RowKit Go.Am Go.Proofs.Ythmnfjaogoennaa.Facts Go.Proofs.Ythmnfjaogoennaa.Wb

theorem lifted (os : Os) (started : os.Started) (H : Type) (enc : TypeId × Value → H) :
    ReturnsInHanded {} Try.checked os 9 .any (Rows.sumSaysSpec.pre6 enc Try.prog Try.f9 Rows.sumSaysRow.domain false) (Rows.sumSaysSpec.post enc Try.prog Try.f9 false true false false) := by
  refine returnsInHanded_of_change (C := Try.checked) own started (by kernel_rfl) Try.func9
    (ChangeSpec.witness6 (enc := enc) (C := Try.checked) false ⟨#[], #[.slice none 0 0, .slice none 0 0, .slice none 0 0, .int .i64 0, .int .i64 0], []⟩ 8 (by kernel_rfl) (by kernel_rfl) (by kernel_rfl) (by kernel_rfl)) ?_
  intro W base args ds gs before hval0 hW hcnd _
  have hp : Try.f9.params = #[22, 22, 22, 3, 3] := by kernel_rfl
  have hval : ∀ (j : Nat) t v, Try.f9.params[j]? = some t → args[j]? = some v → Value.okWide Try.prog W .any base t v := hval0
  have hW' := hW
  obtain ⟨p, q, hA0, hV, rfl, hfz, hnd⟩ := hW
  have hA : DataW.TrodAll enc Try.prog W 0 (fun _ => true) true Try.f9.params.toList args.toList ds p := hA0
  rw [hp] at hA hval
  obtain ⟨v0, vs0, d0, ds0, p0, q0, hargs, rfl, rfl, h0, r0⟩ := trodAll_cons hA
  obtain ⟨v1, vs1, d1, ds1, p1, q1, rfl, rfl, rfl, h1, r1⟩ := trodAll_cons r0
  obtain ⟨v2, vs2, d2, ds2, p2, q2, rfl, rfl, rfl, h2, r2⟩ := trodAll_cons r1
  obtain ⟨v3, vs3, d3, ds3, p3, q3, rfl, rfl, rfl, h3, r3⟩ := trodAll_cons r2
  obtain ⟨v4, vs4, d4, ds4, p4, q4, rfl, rfl, rfl, h4, r4⟩ := trodAll_cons r3
  obtain ⟨rfl, rfl, rfl⟩ := trodAll_nil r4
  obtain rfl : args = #[v0, v1, v2, v3, v4] := by cases args; simp_all
  have e0 : v0.cells = #[v0] := by
    obtain ⟨a, len, cap, rfl⟩ := okWide_slice Try.underlying22 (hval 0 22 v0 rfl rfl)
    rfl
  obtain ⟨u0, zs0, q0, b0, l0, z0, o0, n0⟩ := open_nums 16 Try.underlying22 Try.underlying5 (by kernel_rfl) e0 h0
  have e1 : v1.cells = #[v1] := by
    obtain ⟨a, len, cap, rfl⟩ := okWide_slice Try.underlying22 (hval 1 22 v1 rfl rfl)
    rfl
  obtain ⟨u1, zs1, q1, b1, l1, z1, o1, n1⟩ := open_nums 17 Try.underlying22 Try.underlying5 (by kernel_rfl) e1 h1
  have e2 : v2.cells = #[v2] := by
    obtain ⟨a, len, cap, rfl⟩ := okWide_slice Try.underlying22 (hval 2 22 v2 rfl rfl)
    rfl
  obtain ⟨u2, zs2, q2, b2, l2, z2, o2, n2⟩ := open_nums 18 Try.underlying22 Try.underlying5 (by kernel_rfl) e2 h2
  obtain ⟨a3, rfl, rfl, rfl, w3⟩ := open_int Try.underlying3 (hval 3 3 v3 rfl rfl) h3
  obtain ⟨a4, rfl, rfl, rfl, w4⟩ := open_int Try.underlying3 (hval 4 3 v4 rfl rfl) h4
  have hb0 := n0 (mn [b0, b1, b2]) 19 (mn_at [b0, b1, b2] 0)
  have hB0 := hb0.bytes (fun n hn => wf_u8 (z0 n hn))
  have hL0 := bytesI_len zs0
  have hb1 := n1 (mn [b0, b1, b2]) 19 (mn_at [b0, b1, b2] 1)
  have hB1 := hb1.bytes (fun n hn => wf_u8 (z1 n hn))
  have hL1 := bytesI_len zs1
  have hb2 := n2 (mn [b0, b1, b2]) 19 (mn_at [b0, b1, b2] 2)
  have hB2 := hb2.bytes (fun n hn => wf_u8 (z2 n hn))
  have hL2 := bytesI_len zs2
  have R : HRel Try.prog W.heap.size (jn [q0, q1, q2]) ⟨19, mn [b0, b1, b2]⟩ W := hrel_opened (P := Try.prog) (w := W) (qs := [q0, q1, q2]) (bs := [b0, b1, b2]) rfl (fun i b' h => by
    match i, h with
    | 0, h => exact o0.blk _ (jn_at [q0, q1, q2] 0) b' h
    | 1, h => exact o1.blk _ (jn_at [q0, q1, q2] 1) b' h
    | 2, h => exact o2.blk _ (jn_at [q0, q1, q2] 2) b' h
    | (i + 3), h => simp at h)
  have main : Ok Try.prog 100 9 [u0, u1, u2, .i .i64 a3, .i .i64 a4] ⟨19, mn [b0, b1, b2]⟩ (fun v _ => v = .b true) :=
    says_ok (by decide) hB0 hB1 hB2 (by rw [hL0]; exact l0) (by rw [hL1]; exact l1) (by rw [hL2]; exact l2)
  refine (calls_ok main R (rens_mk (o0.ren _ (jn_at [q0, q1, q2] 0)) (rens_mk (o1.ren _ (jn_at [q0, q1, q2] 1)) (rens_mk (o2.ren _ (jn_at [q0, q1, q2] 2)) (rens_mk rfl (rens_mk rfl rfl))))) (fun r hr => jn_out [q0, q1, q2] hr)).mono fun e W' ⟨he, hg⟩ => ?_
  subst he
  exact ⟨_, rfl, post_of_below kids (slices_ok sizes) (by rw [hp]; decide +kernel) hW' rfl rfl (by kernel_rfl) Try.underlying4 hg⟩

set_option maxHeartbeats 8000000 in
theorem proved : Rows.SumSaysSaid :=
  OpenClaim.holds_of_wide 9 Try.f9 rfl rfl rfl rfl rfl rfl rfl ⟨rfl, rfl, rfl, rfl, rfl⟩ rfl rfl rfl rfl rfl (by kernel_rfl) Try.func9
    (by unfold joinedFacts; exact and2 (and2 (and2 (and2 (and2 (and2 (and2 (and2 (and2 (and2 (and2 (and2 (and2 (and2 (and2 (and2 (and2 (and2 (and2 (and2 (and2 (and2 (and2 (and2 (and2 (and2 (and2 (and2 (and2 (and2 (and2 (by as_aux_lemma => kernel_rfl) laid) rowed) (by as_aux_lemma => kernel_rfl)) (by as_aux_lemma => kernel_rfl)) (by as_aux_lemma => kernel_rfl)) stops) (by as_aux_lemma => kernel_rfl)) knobs) (by as_aux_lemma => kernel_rfl)) (by as_aux_lemma => kernel_rfl)) (by as_aux_lemma => kernel_rfl)) (by as_aux_lemma => kernel_rfl)) (by as_aux_lemma => kernel_rfl)) (by as_aux_lemma => kernel_rfl)) (by as_aux_lemma => kernel_rfl)) (by as_aux_lemma => kernel_rfl)) (by as_aux_lemma => kernel_rfl)) (by as_aux_lemma => kernel_rfl)) (by as_aux_lemma => kernel_rfl)) (by as_aux_lemma => kernel_rfl)) (by as_aux_lemma => kernel_rfl)) (by as_aux_lemma => kernel_rfl)) (by as_aux_lemma => kernel_rfl)) heard) enter) (by as_aux_lemma => kernel_rfl)) (by as_aux_lemma => kernel_rfl)) (by as_aux_lemma => kernel_rfl)) (by as_aux_lemma => kernel_rfl)) (by as_aux_lemma => kernel_rfl)) (by as_aux_lemma => kernel_rfl))
    (of_decide_eq_true (by kernel_rfl)) (by unfold Func.isWrapper; first | (rw [if_pos (by decide +kernel)]; kernel_rfl) | (rw [if_neg (by decide +kernel)]; exact ⟨rfl, rfl⟩))
    (fun os started H enc _ => lifted os started H enc)
end Go.Proofs.Ythmnfjaogoennaa.sumSays
