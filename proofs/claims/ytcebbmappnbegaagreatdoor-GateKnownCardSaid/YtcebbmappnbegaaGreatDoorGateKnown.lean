/- GateKnown returns true. It has no parameters. Condition: the library tables that its row lists hold what they are laid as (the card ties them to the text). -/
import Derived.Test.YtcebbmappnbegaaGreatDoorRows
import Derived.Test.YtcebbmappnbegaaGreatDoorCards
import Derived.Test.YtcebbmappnbegaaGreatDoorTieO
import Derived.Test.YtcebbmappnbegaaGreatDoorFactsYtceZ
import Derived.Test.YtcebbmappnbegaaGreatDoorFactsYtceL
import Derived.Test.YtcebbmappnbegaaGreatDoorFactsYtceG
import Derived.Test.YtcebbmappnbegaaGreatDoorGateKnownC
import Derived.Test.YtcebbmappnbegaaGreatDoorGateKnownB
import Derived.Test.YtcebbmappnbegaaGreatDoorM5
import Derived.WalkKit
import Derived.ProofKit
import Derived.Lay
import Derived.LaidOnce
import Derived.SevenTiedAt
set_option maxRecDepth 100000
namespace Go.Proofs.YtcebbmappnbegaaGreatDoor.gateKnown
open Go Go.ChangeShapes Go.WideShapes Go.ChangeAt Go.RowKit Go.Lib Go.Am Go.Proofs.YtcebbmappnbegaaGreatDoor.Facts

theorem walk (W : World) : Calls Tryz.prog 5 #[] W fun e w' => e = .returned (.bool true) ∧ Below W.heap.size W w' := by
  obtain ⟨h', e⟩ := ran
  exact calls_laid (Nat.le_refl _) e W (.nil W) rfl

theorem plain : ∀ w, laidMetH Tryz.prog Rows.gateKnownRow.laid w = laidMet Tryz.prog Rows.gateKnownRow.laid w := fun w => MakeChecks.laidMetH_plain _ _ _ (by as_aux_lemma => kernel_rfl)
theorem laidAll_met (os : Os) (args : Array Value) : laidMetH Tryz.prog Rows.gateKnownRow.laid ((World.laidAll Tryz.prog os LL).forCall (fun _ _ => 0) ⟨#[], args, []⟩).memory := by
  rw [plain]
  exact met os args

set_option maxHeartbeats 8000000 in
theorem lifted (os : Os) (started : os.Started) (H : Type) (enc : TypeId × Value → H) :
    ReturnsInHanded {} Tryz.checked os 5 .any (fun w args => (Rows.gateKnownSpec.pre enc Tryz.prog Tryz.f5 [] false w args ∧ laidMetH Tryz.prog Rows.gateKnownRow.laid w) ∧ sizedMet enc Tryz.prog Tryz.f5 (OpenSpec.ofChange Rows.gateKnownSpec) false w args)
      (Rows.gateKnownSpec.post enc Tryz.prog Tryz.f5 false true false false) := by
  refine handed_and_shaped (C := Tryz.checked) (X := (fun w _ => laidMetH Tryz.prog Rows.gateKnownRow.laid w)) (fun _ _ _ hh h => h.of_heap hh) own started (by as_aux_lemma => kernel_rfl) Tryz.func5
    (ChangeSpec.witness_shaped (enc := enc) (C := Tryz.checked) (os := os) (X := (fun w _ => laidMetH Tryz.prog Rows.gateKnownRow.laid w)) false (World.laidAll Tryz.prog os LL) #[] 8 (World.laidAll_os _ _ _)
      (shaped os _) (by rw [laid_eq]; unfold World.holding World.settled begin; rw [wt]; as_aux_lemma => kernel_rfl) (by rw [laid_eq]; unfold World.holding World.settled begin; rw [wt]; as_aux_lemma => kernel_rfl) (by rw [laid_eq]; unfold World.holding World.settled begin; rw [wt]; as_aux_lemma => kernel_rfl) (laidAll_met os _)) ?_
  intro W base args ds gs before hS hval0 hW hL0
  have hL : laidMet Tryz.prog Rows.gateKnownRow.laid W := by rw [← plain]; exact hL0
  have hp : Tryz.f5.params = #[] := by kernel_rfl
  have hval : ∀ (j : Nat) t v, Tryz.f5.params[j]? = some t → args[j]? = some v → Value.okWide Tryz.prog W .any base t v := hval0
  have hW' := hW
  obtain ⟨p, q, hA0, hV, rfl, hfz, hnd⟩ := hW
  have hA : DataW.TrodAll enc Tryz.prog W 0 (fun _ => true) true Tryz.f5.params.toList args.toList ds p := hA0
  rw [hp] at hA hval
  obtain ⟨rfl, rfl, rfl⟩ := trodAll_none hA
  refine (walk W).mono fun e W' ⟨he, hg⟩ => ?_
  subst he
  exact ⟨_, rfl, post_of_below kids (slices_ok sizes) (by rw [hp]; decide +kernel) hW' rfl rfl (by as_aux_lemma => kernel_rfl) Tryz.underlying4 hg⟩

set_option maxHeartbeats 8000000 in
theorem joined : joinedFacts Tryz.pinned.checked.prog 5 Tryz.f5 Rows.gateKnownSpec Rows.gateKnownRow = true := by
  unfold joinedFacts
  exact (and2 (and2 (and2 (and2 (and2 (and2 (and2 (and2 (and2 (and2 (and2 (and2 (and2 (and2 (and2 (and2 (and2 (and2 (and2 (and2 (and2 (and2 (and2 (and2 (and2 (and2 (and2 (and2 (and2 (and2 (and2 (by as_aux_lemma => kernel_rfl) laid) rowed) (by as_aux_lemma => kernel_rfl)) (by as_aux_lemma => kernel_rfl)) (by as_aux_lemma => kernel_rfl)) stops) (by as_aux_lemma => kernel_rfl)) knobs) inPlaceE) unfolE2) recuE) namedE) (by as_aux_lemma => kernel_rfl)) (by as_aux_lemma => kernel_rfl)) (by as_aux_lemma => kernel_rfl)) (by as_aux_lemma => kernel_rfl)) (by as_aux_lemma => kernel_rfl)) (by as_aux_lemma => kernel_rfl)) (by as_aux_lemma => kernel_rfl)) (by as_aux_lemma => kernel_rfl)) (by as_aux_lemma => kernel_rfl)) plainK) (by as_aux_lemma => kernel_rfl)) heard) enter) liftsE) makeE) (by as_aux_lemma => kernel_rfl)) (by as_aux_lemma => kernel_rfl)) (by as_aux_lemma => kernel_rfl)) (by as_aux_lemma => kernel_rfl))
set_option maxHeartbeats 8000000 in
theorem held : Rows.GateKnownSaid :=
  OpenClaim.holds_of_wide 5 Tryz.f5 (by as_aux_lemma => rfl) (by as_aux_lemma => rfl) (by as_aux_lemma => rfl) (by as_aux_lemma => rfl) (by as_aux_lemma => rfl) (by as_aux_lemma => rfl) (by as_aux_lemma => rfl) ⟨(by as_aux_lemma => rfl), (by as_aux_lemma => rfl), (by as_aux_lemma => rfl), (by as_aux_lemma => rfl), (by as_aux_lemma => rfl)⟩ (by as_aux_lemma => rfl) (by as_aux_lemma => rfl) (by as_aux_lemma => rfl) (by as_aux_lemma => rfl) (by as_aux_lemma => rfl) fnm Tryz.func5 joined
    (of_decide_eq_true (by as_aux_lemma => kernel_rfl)) (by unfold Func.isWrapper; first | (rw [if_pos (by decide +kernel)]; kernel_rfl) | (rw [if_neg (by decide +kernel)]; exact ⟨rfl, rfl⟩))
    (fun os started H enc _ => lifted os started H enc)

set_option maxHeartbeats 8000000 in
theorem proved : Rows.GateKnownCardSaid :=
  Claim7.holds_tied_plain_at .later [] [.pinned, .data, .sentinel, .sentinel, .data, .data, .data] true (true, "663ca5b6adc3035d37e2dcfe4094552606a8f77678cbe501a19f29d461447a63") true held (fun _ h => by cases h) (by as_aux_lemma => kernel_rfl) (fun _ h => by cases h) gateKnown_row_tie (by as_aux_lemma => rfl) ⟨(by as_aux_lemma => rfl), (by as_aux_lemma => rfl)⟩ mainE (by as_aux_lemma => rfl)
    (fun f fn hf hfn => by
      obtain rfl : f = 5 := Option.some.inj ((show Tryz.prog.funcNamed "gatehouse/gatehouselaw27.GateKnown" = some 5 from fnm).symm.trans hf) |>.symm
      obtain rfl : fn = Tryz.f5 := (Option.some.inj (Tryz.func5.symm.trans hfn)).symm
      exact ⟨looksT, fun j t ht => by
        have hp : Tryz.f5.params = #[] := by kernel_rfl
        rw [hp] at ht
        have hm : t ∈ ([] : List TypeId) := by simpa using Array.mem_of_getElem? ht
        have hall : (([] : List TypeId).all fun u => !Tryz.prog.wantsStandIn u) = true := by kernel_rfl
        exact (show Tryz.prog.wantsStandIn t = false by simpa using List.all_eq_true.1 hall t hm)⟩)
    (goesBy_none noGoes (by as_aux_lemma => rfl))
end Go.Proofs.YtcebbmappnbegaaGreatDoor.gateKnown
