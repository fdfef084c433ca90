/- GateStrangers returns true, whatever its arguments are. No condition. -/
import Derived.Test.YtcebbmappnbegaaGreatDoorRows
import Derived.Test.YtcebbmappnbegaaGreatDoorCards
import Derived.Test.YtcebbmappnbegaaGreatDoorTieO
import Derived.Test.YtcebbmappnbegaaGreatDoorFactsYtceZ
import Derived.Test.YtcebbmappnbegaaGreatDoorFactsYtceL
import Derived.Test.YtcebbmappnbegaaGreatDoorFactsYtceG
import Derived.Test.YtcebbmappnbegaaGreatDoorGateStrangersC
import Derived.Test.YtcebbmappnbegaaGreatDoorGu1
import Derived.Test.YtcebbmappnbegaaGreatDoorM4
import Derived.Test.YtcebbmappnbegaaGreatDoorM5
import Derived.WalkKit
import Derived.ProofKit
import Derived.Lay
import Derived.LaidOnce
import Derived.SevenTiedAt
set_option maxRecDepth 100000
namespace Go.Proofs.YtcebbmappnbegaaGreatDoor.gateStrangers
open Go Go.ChangeShapes Go.WideShapes Go.ChangeAt Go.RowKit Go.Lib Go.Am Go.Proofs.YtcebbmappnbegaaGreatDoor.Facts

theorem plain : ∀ w, laidMetH Tryz.prog Rows.gateStrangersRow.laid w = laidMet Tryz.prog Rows.gateStrangersRow.laid w := fun w => MakeChecks.laidMetH_plain _ _ _ (by as_aux_lemma => kernel_rfl)
theorem laidAll_met (os : Os) (args : Array Value) : laidMetH Tryz.prog Rows.gateStrangersRow.laid ((World.laidAll Tryz.prog os LL).forCall (fun _ _ => 0) ⟨#[], args, []⟩).memory := by
  rw [plain]
  exact met os args

set_option maxHeartbeats 8000000 in
theorem lifted (os : Os) (started : os.Started) (H : Type) (enc : TypeId × Value → H) :
    ReturnsInHanded {} Tryz.checked os 9 .any (fun w args => (Rows.gateStrangersSpec.pre enc Tryz.prog Tryz.f9 [] false w args ∧ laidMetH Tryz.prog Rows.gateStrangersRow.laid w) ∧ sizedMet enc Tryz.prog Tryz.f9 (OpenSpec.ofChange Rows.gateStrangersSpec) false w args)
      (Rows.gateStrangersSpec.post enc Tryz.prog Tryz.f9 false true false false) := by
  refine handed_and_shaped (C := Tryz.checked) (X := (fun w _ => laidMetH Tryz.prog Rows.gateStrangersRow.laid w)) (fun _ _ _ hh h => h.of_heap hh) own started (by as_aux_lemma => kernel_rfl) Tryz.func9
    (ChangeSpec.witness_shaped (enc := enc) (C := Tryz.checked) (os := os) (X := (fun w _ => laidMetH Tryz.prog Rows.gateStrangersRow.laid w)) false (World.laidAll Tryz.prog os LL) #[.int .i64 0, .agg #[.int .u8 0, .int .u8 0, .int .u8 0, .int .u8 0, .int .u8 0, .int .u8 0], .int .i64 0, .slice none 0 0, .int .i64 0] 8 (World.laidAll_os _ _ _)
      (shaped os _) (by rw [laid_eq]; unfold World.holding World.settled begin; rw [wt]; as_aux_lemma => kernel_rfl) (by rw [laid_eq]; unfold World.holding World.settled begin; rw [wt]; as_aux_lemma => kernel_rfl) (by rw [laid_eq]; unfold World.holding World.settled begin; rw [wt]; as_aux_lemma => kernel_rfl) (laidAll_met os _)) ?_
  intro W base args ds gs before hS hval0 hW hL0
  have hL : laidMet Tryz.prog Rows.gateStrangersRow.laid W := by rw [← plain]; exact hL0
  have hp : Tryz.f9.params = #[3, 31, 3, 54, 3] := by kernel_rfl
  have hval : ∀ (j : Nat) t v, Tryz.f9.params[j]? = some t → args[j]? = some v → Value.okWide Tryz.prog W .any base t v := hval0
  have hW' := hW
  obtain ⟨p, q, hA0, hV, rfl, hfz, hnd⟩ := hW
  have hA : DataW.TrodAll enc Tryz.prog W 0 (fun _ => true) true Tryz.f9.params.toList args.toList ds p := hA0
  rw [hp] at hA hval
  obtain ⟨v0, vs0, d0, ds0, p0, q0, hargs, rfl, rfl, h0, r0⟩ := trodAll_cons hA
  obtain ⟨v1, vs1, d1, ds1, p1, q1, rfl, rfl, rfl, h1, r1⟩ := trodAll_cons r0
  obtain ⟨v2, vs2, d2, ds2, p2, q2, rfl, rfl, rfl, h2, r2⟩ := trodAll_cons r1
  obtain ⟨v3, vs3, d3, ds3, p3, q3, rfl, rfl, rfl, h3, r3⟩ := trodAll_cons r2
  obtain ⟨v4, vs4, d4, ds4, p4, q4, rfl, rfl, rfl, h4, r4⟩ := trodAll_cons r3
  obtain ⟨rfl, rfl, rfl⟩ := trodAll_nil r4
  obtain rfl : args = #[v0, v1, v2, v3, v4] := by cases args; simp_all
  obtain ⟨a0, rfl, rfl, rfl, w0⟩ := open_int Tryz.underlying3 (hval 0 3 v0 rfl rfl) h0
  obtain ⟨zs1, hz1, rfl, hb1⟩ := open_bytes Tryz.underlying31 Tryz.underlying5 (by kernel_rfl) (by kernel_rfl) (hval 1 31 v1 rfl rfl) h1
  obtain ⟨c1_0, c1_1, c1_2, c1_3, c1_4, c1_5, rfl⟩ := len6 hz1
  obtain ⟨a2, rfl, rfl, rfl, w2⟩ := open_int Tryz.underlying3 (hval 2 3 v2 rfl rfl) h2
  have e3 : v3.cells = #[v3] := by
    obtain ⟨a, len, cap, rfl⟩ := okWide_slice Tryz.underlying54 (hval 3 54 v3 rfl rfl)
    rfl
  obtain ⟨u3, zs3, k3, b3, l3, z3, o3, n3⟩ := open_nums 16 Tryz.underlying54 Tryz.underlying5 (by kernel_rfl) e3 h3
  obtain ⟨a4, rfl, rfl, rfl, w4⟩ := open_int Tryz.underlying3 (hval 4 3 v4 rfl rfl) h4
  have hb0 := n3 (mn [b3]) 17 (mn_at [b3] 0)
  have hB0 := hb0.bytes (fun n hn => wf_u8 (z3 n hn))
  have hL0 := bytesI_len zs3
  have R : HRel Tryz.prog W.heap.size (jn [k3]) ⟨17, mn [b3]⟩ W := hrel_opened (P := Tryz.prog) (w := W) (qs := [k3]) (bs := [b3]) rfl (fun i b h => by
    match i, h with
    | 0, h => exact o3.blk _ (jn_at [k3] 0) b h
    | (i + 1), h => simp at h)
  have main : Ok Tryz.prog 100 9 [.i .i64 a0, .a [.i .u8 c1_0, .i .u8 c1_1, .i .u8 c1_2, .i .u8 c1_3, .i .u8 c1_4, .i .u8 c1_5], .i .i64 a2, u3, .i .i64 a4] ⟨17, mn [b3]⟩ (fun v _ => v = .b true) :=
    Wb.strangers (show 16 ≤ 17 by decide) hb1 hB0 (by rw [hL0]; exact l3)
  refine (calls_ok main R (rens_mk rfl (rens_mk rfl (rens_mk rfl (rens_mk (o3.ren _ (jn_at [k3] 0)) (rens_mk rfl rfl))))) (fun r hr => jn_out [k3] hr)).mono fun e W' ⟨he, hg⟩ => ?_
  subst he
  exact ⟨_, rfl, post_of_below kids (slices_ok sizes) (by rw [hp]; decide +kernel) hW' rfl rfl (by as_aux_lemma => kernel_rfl) Tryz.underlying4 hg⟩

set_option maxHeartbeats 8000000 in
theorem joined : joinedFacts Tryz.pinned.checked.prog 9 Tryz.f9 Rows.gateStrangersSpec Rows.gateStrangersRow = true := by
  unfold joinedFacts
  exact (and2 (and2 (and2 (and2 (and2 (and2 (and2 (and2 (and2 (and2 (and2 (and2 (and2 (and2 (and2 (and2 (and2 (and2 (and2 (and2 (and2 (and2 (and2 (and2 (and2 (and2 (and2 (and2 (and2 (and2 (and2 (by as_aux_lemma => kernel_rfl) laid) rowed) (by as_aux_lemma => kernel_rfl)) (by as_aux_lemma => kernel_rfl)) (by as_aux_lemma => kernel_rfl)) stops) (by as_aux_lemma => kernel_rfl)) knobs) inPlaceE) unfolE2) recuE) namedE) (by as_aux_lemma => kernel_rfl)) (by as_aux_lemma => kernel_rfl)) (by as_aux_lemma => kernel_rfl)) (by as_aux_lemma => kernel_rfl)) (by as_aux_lemma => kernel_rfl)) (by as_aux_lemma => kernel_rfl)) (by as_aux_lemma => kernel_rfl)) (by as_aux_lemma => kernel_rfl)) (by as_aux_lemma => kernel_rfl)) plainK) (by as_aux_lemma => kernel_rfl)) heard) enter) liftsE) makeE) (by as_aux_lemma => kernel_rfl)) (by as_aux_lemma => kernel_rfl)) (by as_aux_lemma => kernel_rfl)) (by as_aux_lemma => kernel_rfl))
set_option maxHeartbeats 8000000 in
theorem held : Rows.GateStrangersSaid :=
  OpenClaim.holds_of_wide 9 Tryz.f9 (by as_aux_lemma => rfl) (by as_aux_lemma => rfl) (by as_aux_lemma => rfl) (by as_aux_lemma => rfl) (by as_aux_lemma => rfl) (by as_aux_lemma => rfl) (by as_aux_lemma => rfl) ⟨(by as_aux_lemma => rfl), (by as_aux_lemma => rfl), (by as_aux_lemma => rfl), (by as_aux_lemma => rfl), (by as_aux_lemma => rfl)⟩ (by as_aux_lemma => rfl) (by as_aux_lemma => rfl) (by as_aux_lemma => rfl) (by as_aux_lemma => rfl) (by as_aux_lemma => rfl) fnm Tryz.func9 joined
    (of_decide_eq_true (by as_aux_lemma => kernel_rfl)) (by unfold Func.isWrapper; first | (rw [if_pos (by decide +kernel)]; kernel_rfl) | (rw [if_neg (by decide +kernel)]; exact ⟨rfl, rfl⟩))
    (fun os started H enc _ => lifted os started H enc)

set_option maxHeartbeats 8000000 in
theorem proved : Rows.GateStrangersCardSaid :=
  Claim7.holds_tied_plain_at .later [] [.pinned, .data, .sentinel, .sentinel, .data, .data, .data] true (true, "663ca5b6adc3035d37e2dcfe4094552606a8f77678cbe501a19f29d461447a63") true held (fun _ h => by cases h) (by as_aux_lemma => kernel_rfl) (fun _ h => by cases h) gateStrangers_row_tie (by as_aux_lemma => rfl) ⟨(by as_aux_lemma => rfl), (by as_aux_lemma => rfl)⟩ mainE (by as_aux_lemma => rfl)
    (fun f fn hf hfn => by
      obtain rfl : f = 9 := Option.some.inj ((show Tryz.prog.funcNamed "gatehouse/gatehouselaw27.GateStrangers" = some 9 from fnm).symm.trans hf) |>.symm
      obtain rfl : fn = Tryz.f9 := (Option.some.inj (Tryz.func9.symm.trans hfn)).symm
      exact ⟨looksT, fun j t ht => by
        have hp : Tryz.f9.params = #[3, 31, 3, 54, 3] := by kernel_rfl
        rw [hp] at ht
        have hm : t ∈ ([3, 31, 3, 54, 3] : List TypeId) := by simpa using Array.mem_of_getElem? ht
        have hall : (([3, 31, 3, 54, 3] : List TypeId).all fun u => !Tryz.prog.wantsStandIn u) = true := by kernel_rfl
        exact (show Tryz.prog.wantsStandIn t = false by simpa using List.all_eq_true.1 hall t hm)⟩)
    (goesBy_none noGoes (by as_aux_lemma => rfl))
end Go.Proofs.YtcebbmappnbegaaGreatDoor.gateStrangers
