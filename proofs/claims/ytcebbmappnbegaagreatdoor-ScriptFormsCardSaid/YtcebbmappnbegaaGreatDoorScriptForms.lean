/- ScriptForms returns true, whatever its arguments are. Condition: the library tables that its row lists hold what they are laid as (the card ties them to the text). -/
import Derived.Test.YtcebbmappnbegaaGreatDoorRows
import Derived.Test.YtcebbmappnbegaaGreatDoorCards
import Derived.Test.YtcebbmappnbegaaGreatDoorTieO
import Derived.Test.YtcebbmappnbegaaGreatDoorFactsYtceZ
import Derived.Test.YtcebbmappnbegaaGreatDoorFactsYtceL
import Derived.Test.YtcebbmappnbegaaGreatDoorFactsYtceG
import Derived.Test.YtcebbmappnbegaaGreatDoorScriptFormsC
import Derived.Test.YtcebbmappnbegaaGreatDoorScriptFormsB
import Derived.Test.YtcebbmappnbegaaGreatDoorM6
import Derived.WalkKit
import Derived.ProofKit
import Derived.Lay
import Derived.LaidOnce
import Derived.SevenTiedAt
set_option maxRecDepth 100000
namespace Go.Proofs.YtcebbmappnbegaaGreatDoor.scriptForms
open Go Go.ChangeShapes Go.WideShapes Go.ChangeAt Go.RowKit Go.Lib Go.Am Go.Proofs.YtcebbmappnbegaaGreatDoor.Facts

theorem wf_i64' {n : Int} (h : (Lit.int .i64 n).wf = true) : -9223372036854775808 ≤ n ∧ n ≤ 9223372036854775807 := by
  simp [Lit.wf, IntKind.min, IntKind.max, IntKind.signed, IntKind.bits] at h; omega
theorem walk (a0 : Int) (a1 : Int) (w0 : (Lit.int .i64 a0).wf = true) (w1 : (Lit.int .i64 a1).wf = true) (W : World) : Calls Tryz.prog 4 #[.int .i64 a0, .int .i64 a1] W fun e w' => e = .returned (.bool true) ∧ Below W.heap.size W w' := by
  have b0 := wf_i64' w0
  have b1 := wf_i64' w1
  have key : ∃ h', sem (mkX Tryz.prog) 100000 100 4 [.i .i64 a0, .i .i64 a1] ⟨16, lay []⟩ = some (.b true, h') := by
    by_cases h : a0 < 0 ∨ 8 ≤ a0
    · exact oran a0 a1 b0.1 b0.2 b1.1 b1.2 h
    have h : a0 = 0 ∨ a0 = 1 ∨ a0 = 2 ∨ a0 = 3 ∨ a0 = 4 ∨ a0 = 5 ∨ a0 = 6 ∨ a0 = 7 := by omega
    rcases h with rfl | rfl | rfl | rfl | rfl | rfl | rfl | rfl
    · exact k0ran a1 b1.1 b1.2
    · exact k1ran a1 b1.1 b1.2
    · exact k2ran a1 b1.1 b1.2
    · exact k3ran a1 b1.1 b1.2
    · exact k4ran a1 b1.1 b1.2
    · exact k5ran a1 b1.1 b1.2
    · exact k6ran a1 b1.1 b1.2
    · exact k7ran a1 b1.1 b1.2
  obtain ⟨h', e⟩ := key
  exact calls_laid (Nat.le_refl _) e W (.nil W) rfl

theorem plain : ∀ w, laidMetH Tryz.prog Rows.scriptFormsRow.laid w = laidMet Tryz.prog Rows.scriptFormsRow.laid w := fun w => MakeChecks.laidMetH_plain _ _ _ (by as_aux_lemma => kernel_rfl)
theorem laidAll_met (os : Os) (args : Array Value) : laidMetH Tryz.prog Rows.scriptFormsRow.laid ((World.laidAll Tryz.prog os LL).forCall (fun _ _ => 0) ⟨#[], args, []⟩).memory := by
  rw [plain]
  exact met os args

set_option maxHeartbeats 8000000 in
theorem lifted (os : Os) (started : os.Started) (H : Type) (enc : TypeId × Value → H) :
    ReturnsInHanded {} Tryz.checked os 4 .any (fun w args => (Rows.scriptFormsSpec.pre enc Tryz.prog Tryz.f4 [] false w args ∧ laidMetH Tryz.prog Rows.scriptFormsRow.laid w) ∧ sizedMet enc Tryz.prog Tryz.f4 (OpenSpec.ofChange Rows.scriptFormsSpec) false w args)
      (Rows.scriptFormsSpec.post enc Tryz.prog Tryz.f4 false true false false) := by
  refine handed_and_shaped (C := Tryz.checked) (X := (fun w _ => laidMetH Tryz.prog Rows.scriptFormsRow.laid w)) (fun _ _ _ hh h => h.of_heap hh) own started (by as_aux_lemma => kernel_rfl) Tryz.func4
    (ChangeSpec.witness_shaped (enc := enc) (C := Tryz.checked) (os := os) (X := (fun w _ => laidMetH Tryz.prog Rows.scriptFormsRow.laid w)) false (World.laidAll Tryz.prog os LL) #[.int .i64 0, .int .i64 0] 8 (World.laidAll_os _ _ _)
      (shaped os _) (by rw [laid_eq]; unfold World.holding World.settled begin; rw [wt]; as_aux_lemma => kernel_rfl) (by rw [laid_eq]; unfold World.holding World.settled begin; rw [wt]; as_aux_lemma => kernel_rfl) (by rw [laid_eq]; unfold World.holding World.settled begin; rw [wt]; as_aux_lemma => kernel_rfl) (laidAll_met os _)) ?_
  intro W base args ds gs before hS hval0 hW hL0
  have hL : laidMet Tryz.prog Rows.scriptFormsRow.laid W := by rw [← plain]; exact hL0
  have hp : Tryz.f4.params = #[3, 3] := by kernel_rfl
  have hval : ∀ (j : Nat) t v, Tryz.f4.params[j]? = some t → args[j]? = some v → Value.okWide Tryz.prog W .any base t v := hval0
  have hW' := hW
  obtain ⟨p, q, hA0, hV, rfl, hfz, hnd⟩ := hW
  have hA : DataW.TrodAll enc Tryz.prog W 0 (fun _ => true) true Tryz.f4.params.toList args.toList ds p := hA0
  rw [hp] at hA hval
  obtain ⟨v0, vs0, d0, ds0, p0, q0, hargs, rfl, rfl, h0, r0⟩ := trodAll_cons hA
  obtain ⟨v1, vs1, d1, ds1, p1, q1, rfl, rfl, rfl, h1, r1⟩ := trodAll_cons r0
  obtain ⟨rfl, rfl, rfl⟩ := trodAll_nil r1
  obtain rfl : args = #[v0, v1] := by cases args; simp_all
  obtain ⟨a0, rfl, rfl, rfl, w0⟩ := open_int Tryz.underlying3 (hval 0 3 v0 rfl rfl) h0
  obtain ⟨a1, rfl, rfl, rfl, w1⟩ := open_int Tryz.underlying3 (hval 1 3 v1 rfl rfl) h1
  refine (walk a0 a1 w0 w1 W).mono fun e W' ⟨he, hg⟩ => ?_
  subst he
  exact ⟨_, rfl, post_of_below kids (slices_ok sizes) (by rw [hp]; decide +kernel) hW' rfl rfl (by as_aux_lemma => kernel_rfl) Tryz.underlying4 hg⟩

set_option maxHeartbeats 8000000 in
theorem joined : joinedFacts Tryz.pinned.checked.prog 4 Tryz.f4 Rows.scriptFormsSpec Rows.scriptFormsRow = true := by
  unfold joinedFacts
  exact (and2 (and2 (and2 (and2 (and2 (and2 (and2 (and2 (and2 (and2 (and2 (and2 (and2 (and2 (and2 (and2 (and2 (and2 (and2 (and2 (and2 (and2 (and2 (and2 (and2 (and2 (and2 (and2 (and2 (and2 (and2 (by as_aux_lemma => kernel_rfl) laid) rowed) (by as_aux_lemma => kernel_rfl)) (by as_aux_lemma => kernel_rfl)) (by as_aux_lemma => kernel_rfl)) stops) (by as_aux_lemma => kernel_rfl)) knobs) inPlaceE) unfolE2) recuE) namedE) (by as_aux_lemma => kernel_rfl)) (by as_aux_lemma => kernel_rfl)) (by as_aux_lemma => kernel_rfl)) (by as_aux_lemma => kernel_rfl)) (by as_aux_lemma => kernel_rfl)) (by as_aux_lemma => kernel_rfl)) (by as_aux_lemma => kernel_rfl)) (by as_aux_lemma => kernel_rfl)) (by as_aux_lemma => kernel_rfl)) plainK) (by as_aux_lemma => kernel_rfl)) heard) enter) liftsE) makeE) (by as_aux_lemma => kernel_rfl)) (by as_aux_lemma => kernel_rfl)) (by as_aux_lemma => kernel_rfl)) (by as_aux_lemma => kernel_rfl))
set_option maxHeartbeats 8000000 in
theorem held : Rows.ScriptFormsSaid :=
  OpenClaim.holds_of_wide 4 Tryz.f4 (by as_aux_lemma => rfl) (by as_aux_lemma => rfl) (by as_aux_lemma => rfl) (by as_aux_lemma => rfl) (by as_aux_lemma => rfl) (by as_aux_lemma => rfl) (by as_aux_lemma => rfl) ⟨(by as_aux_lemma => rfl), (by as_aux_lemma => rfl), (by as_aux_lemma => rfl), (by as_aux_lemma => rfl), (by as_aux_lemma => rfl)⟩ (by as_aux_lemma => rfl) (by as_aux_lemma => rfl) (by as_aux_lemma => rfl) (by as_aux_lemma => rfl) (by as_aux_lemma => rfl) fnm Tryz.func4 joined
    (of_decide_eq_true (by as_aux_lemma => kernel_rfl)) (by unfold Func.isWrapper; first | (rw [if_pos (by decide +kernel)]; kernel_rfl) | (rw [if_neg (by decide +kernel)]; exact ⟨rfl, rfl⟩))
    (fun os started H enc _ => lifted os started H enc)

set_option maxHeartbeats 8000000 in
theorem proved : Rows.ScriptFormsCardSaid :=
  Claim7.holds_tied_plain_at .later [] [.pinned, .data, .sentinel, .sentinel, .data, .data, .data] true (true, "663ca5b6adc3035d37e2dcfe4094552606a8f77678cbe501a19f29d461447a63") true held (fun _ h => by cases h) (by as_aux_lemma => kernel_rfl) (fun _ h => by cases h) scriptForms_row_tie (by as_aux_lemma => rfl) ⟨(by as_aux_lemma => rfl), (by as_aux_lemma => rfl)⟩ mainE (by as_aux_lemma => rfl)
    (fun f fn hf hfn => by
      obtain rfl : f = 4 := Option.some.inj ((show Tryz.prog.funcNamed "gatehouse/gatehouselaw28.ScriptForms" = some 4 from fnm).symm.trans hf) |>.symm
      obtain rfl : fn = Tryz.f4 := (Option.some.inj (Tryz.func4.symm.trans hfn)).symm
      exact ⟨looksT, fun j t ht => by
        have hp : Tryz.f4.params = #[3, 3] := by kernel_rfl
        rw [hp] at ht
        have hm : t ∈ ([3, 3] : List TypeId) := by simpa using Array.mem_of_getElem? ht
        have hall : (([3, 3] : List TypeId).all fun u => !Tryz.prog.wantsStandIn u) = true := by kernel_rfl
        exact (show Tryz.prog.wantsStandIn t = false by simpa using List.all_eq_true.1 hall t hm)⟩)
    (goesBy_none noGoes (by as_aux_lemma => rfl))
end Go.Proofs.YtcebbmappnbegaaGreatDoor.scriptForms
