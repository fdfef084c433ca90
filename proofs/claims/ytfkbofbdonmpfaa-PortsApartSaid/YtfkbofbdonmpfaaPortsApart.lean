/- PortsApart returns true, for every slice of calls: no two live mappings have one protocol and port. No condition. -/
import Derived.Test.YtfkbofbdonmpfaaRows
import Derived.Test.YtfkbofbdonmpfaaFactsYtfk
import Derived.Test.YtfkbofbdonmpfaaM4
import Derived.Test.YtfkbofbdonmpfaaM5
import Derived.Test.YtfkbofbdonmpfaaSo10
import Derived.WalkKit
set_option maxRecDepth 100000
namespace Go.Proofs.Ytfkbofbdonmpfaa.portsApart
open Go.ChangeShapes Go.WideShapes Go.ChangeAt Go.RowKit Go.Am Go.Proofs.Ytfkbofbdonmpfaa.Facts Go.Proofs.Ytfkbofbdonmpfaa.Wb

theorem flatT3 : FlatT Try.prog 3 [.i64] := flat_int Try.underlying3
theorem flatT5 : FlatT Try.prog 5 [.u8] := flat_int Try.underlying5
theorem flatT28 : FlatT Try.prog 28 [.u8, .u8, .u8, .u8] := flat_arr (n := 4) Try.underlying28 flatT5 (by kernel_rfl) (by kernel_rfl)
theorem flatT2 : FlatT Try.prog 2 [.i64] := flat_int Try.underlying2
theorem flatT30 : FlatT Try.prog 30 [.i64, .i64, .u8, .u8, .u8, .u8, .i64, .i64, .i64] := flat_struct Try.underlying30 (by kernel_rfl) (.cons rfl (by kernel_rfl) flatT3 <| .cons rfl (by kernel_rfl) flatT3 <| .cons rfl (by kernel_rfl) flatT28 <| .cons rfl (by kernel_rfl) flatT3 <| .cons rfl (by kernel_rfl) flatT3 <| .cons rfl (by kernel_rfl) flatT2 <| .nil)
theorem flatT35 : FlatT Try.prog 35 [.i64, .u8, .u8, .u8, .u8, .i64] := flat_struct Try.underlying35 (by kernel_rfl) (.cons rfl (by kernel_rfl) flatT3 <| .cons rfl (by kernel_rfl) flatT28 <| .cons rfl (by kernel_rfl) flatT3 <| .nil)
theorem flatT75 : FlatT Try.prog 75 [.i64, .i64, .i64, .u8, .u8, .u8, .u8, .i64, .i64, .i64, .i64, .u8, .u8, .u8, .u8, .i64, .i64, .i64] := flat_struct Try.underlying75 (by kernel_rfl) (.cons rfl (by kernel_rfl) flatT3 <| .cons rfl (by kernel_rfl) flatT30 <| .cons rfl (by kernel_rfl) flatT35 <| .cons rfl (by kernel_rfl) flatT2 <| .cons rfl (by kernel_rfl) flatT2 <| .nil)
theorem lifted (os : Os) (started : os.Started) (H : Type) (enc : TypeId × Value → H) :
    ReturnsInHanded {} Try.checked os 8 .any (Rows.portsApartSpec.pre6 enc Try.prog Try.f8 Rows.portsApartRow.domain false) (Rows.portsApartSpec.post enc Try.prog Try.f8 false true false false) := by
  refine returnsInHanded_of_change (C := Try.checked) own started (by kernel_rfl) Try.func8
    (ChangeSpec.witness6 (enc := enc) (C := Try.checked) false ⟨#[], #[.slice none 0 0], []⟩ 8 (by kernel_rfl) (by kernel_rfl) (by kernel_rfl) (by kernel_rfl)) ?_
  intro W base args ds gs before hval0 hW hcnd _
  have hp : Try.f8.params = #[73] := by kernel_rfl
  have hval : ∀ (j : Nat) t v, Try.f8.params[j]? = some t → args[j]? = some v → Value.okWide Try.prog W .any base t v := hval0
  have hW' := hW
  obtain ⟨p, q, hA0, hV, rfl, hfz, hnd⟩ := hW
  have hA : DataW.TrodAll enc Try.prog W 0 (fun _ => true) true Try.f8.params.toList args.toList ds p := hA0
  rw [hp] at hA hval
  obtain ⟨v0, vs0, d0, ds0, p0, q0, hargs, rfl, rfl, h0, r0⟩ := trodAll_cons hA
  obtain ⟨rfl, rfl, rfl⟩ := trodAll_nil r0
  obtain rfl : args = #[v0] := by cases args; simp_all
  have e0 : v0.cells = #[v0] := by
    obtain ⟨a, len, cap, rfl⟩ := okWide_slice Try.underlying73 (hval 0 73 v0 rfl rfl)
    rfl
  obtain ⟨u0, zs0, q0, b0, l0, z0, o0, n0⟩ := open_flat 16 Try.underlying73 flatT75 (by kernel_rfl) (by decide) e0 h0
  have hb0 := n0 (mn [b0]) 17 (mn_at [b0] 0)
  have R : HRel Try.prog W.heap.size (jn [q0]) ⟨17, mn [b0]⟩ W := hrel_opened (P := Try.prog) (w := W) (qs := [q0]) (bs := [b0]) rfl (fun i b' h => by
    match i, h with
    | 0, h => exact o0.blk _ (jn_at [q0] 0) b' h
    | (i + 1), h => simp at h)
  have main : Ok Try.prog 100 8 [u0] ⟨17, mn [b0]⟩ (fun v _ => v = .b true) :=
    portsApart_ok (by kernel_rfl) rfl hb0 (fun z hz => actP_of (z0 z hz))
  refine (calls_ok main R (rens_mk (o0.ren _ (jn_at [q0] 0)) rfl) (fun r hr => jn_out [q0] hr)).mono fun e W' ⟨he, hg⟩ => ?_
  subst he
  exact ⟨_, rfl, post_of_below kids (slices_ok sizes) (by rw [hp]; decide +kernel) hW' rfl rfl (by kernel_rfl) Try.underlying4 hg⟩

set_option maxHeartbeats 8000000 in
theorem proved : Rows.PortsApartSaid :=
  OpenClaim.holds_of_wide 8 Try.f8 rfl rfl rfl rfl rfl rfl rfl ⟨rfl, rfl, rfl, rfl, rfl⟩ rfl rfl rfl rfl rfl (by kernel_rfl) Try.func8
    (by unfold joinedFacts; exact and2 (and2 (and2 (and2 (and2 (and2 (and2 (and2 (and2 (and2 (and2 (and2 (and2 (and2 (and2 (and2 (and2 (and2 (and2 (and2 (and2 (and2 (and2 (and2 (and2 (and2 (and2 (and2 (and2 (and2 (and2 (by as_aux_lemma => kernel_rfl) laid) rowed) (by as_aux_lemma => kernel_rfl)) (by as_aux_lemma => kernel_rfl)) (by as_aux_lemma => kernel_rfl)) stops) (by as_aux_lemma => kernel_rfl)) knobs) (by as_aux_lemma => kernel_rfl)) (by as_aux_lemma => kernel_rfl)) (by as_aux_lemma => kernel_rfl)) (by as_aux_lemma => kernel_rfl)) (by as_aux_lemma => kernel_rfl)) (by as_aux_lemma => kernel_rfl)) (by as_aux_lemma => kernel_rfl)) (by as_aux_lemma => kernel_rfl)) (by as_aux_lemma => kernel_rfl)) (by as_aux_lemma => kernel_rfl)) (by as_aux_lemma => kernel_rfl)) (by as_aux_lemma => kernel_rfl)) (by as_aux_lemma => kernel_rfl)) (by as_aux_lemma => kernel_rfl)) (by as_aux_lemma => kernel_rfl)) heard) enter) (by as_aux_lemma => kernel_rfl)) (by as_aux_lemma => kernel_rfl)) (by as_aux_lemma => kernel_rfl)) (by as_aux_lemma => kernel_rfl)) (by as_aux_lemma => kernel_rfl)) (by as_aux_lemma => kernel_rfl))
    (of_decide_eq_true (by kernel_rfl)) (by unfold Func.isWrapper; first | (rw [if_pos (by decide +kernel)]; kernel_rfl) | (rw [if_neg (by decide +kernel)]; exact ⟨rfl, rfl⟩))
    (fun os started H enc _ => lifted os started H enc)
end Go.Proofs.Ytfkbofbdonmpfaa.portsApart
