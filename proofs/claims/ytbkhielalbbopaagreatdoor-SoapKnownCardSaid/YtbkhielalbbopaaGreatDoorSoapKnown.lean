/- SoapKnown returns true. It has no parameters. Condition: the library tables that its row lists hold what they are laid as (the card ties them to the text). -/
import Derived.Test.YtbkhielalbbopaaGreatDoorRows
import Derived.Test.YtbkhielalbbopaaGreatDoorCards
import Derived.Test.YtbkhielalbbopaaGreatDoorTie
import Derived.Test.YtbkhielalbbopaaGreatDoorFactsYtbkZ
import Derived.Test.YtbkhielalbbopaaGreatDoorM6
import Derived.Test.YtbkhielalbbopaaGreatDoorBzT
import Derived.Test.YtbkhielalbbopaaGreatDoorSoapKnownW
import Derived.WalkKit
import Derived.ProofKit
import Derived.Lay
import Derived.LaidOnce
import Derived.SevenTiedAt
set_option maxRecDepth 100000
namespace Go.Proofs.YtbkhielalbbopaaGreatDoor.soapKnown
open Go Go.ChangeShapes Go.WideShapes Go.ChangeAt Go.RowKit Go.Lib Go.Am Go.Proofs.YtbkhielalbbopaaGreatDoor.Facts

theorem tabs {W : World} (hL : laidMet Tryz.prog Rows.soapKnownRow.laid W) : LaidAt W tabl :=
  .cons (tabIs_of_reads (g := 3) (by kernel_rfl) (by kernel_rfl) Tryz.underlying203 Tryz.underlying177 (by kernel_rfl) (by kernel_rfl) (laidMet.reads hL (n := "internal/strconv.uint64pow10") (d := Rows.laid_internal_strconv_uint64pow10) (by simp [Rows.soapKnownRow]))) (by kernel_rfl) (by decide) (by decide) (.nil W)

theorem plain : ∀ w, laidMetH Tryz.prog Rows.soapKnownRow.laid w = laidMet Tryz.prog Rows.soapKnownRow.laid w := fun w => MakeChecks.laidMetH_plain _ _ _ (by kernel_rfl)
theorem laidAll_met (os : Os) (args : Array Value) : laidMetH Tryz.prog Rows.soapKnownRow.laid ((World.laidAll Tryz.prog os Rows.soapKnownRow.laid).forCall (fun _ _ => 0) ⟨#[], args, []⟩).memory := by
  rw [plain]
  exact laidMet_laidAll _ (by kernel_rfl) (by kernel_rfl)

theorem lifted (os : Os) (started : os.Started) (H : Type) (enc : TypeId × Value → H) :
    ReturnsInHanded {} Tryz.checked os 4 .any (fun w args => (Rows.soapKnownSpec.pre enc Tryz.prog Tryz.f4 [] false w args ∧ laidMetH Tryz.prog Rows.soapKnownRow.laid w) ∧ sizedMet enc Tryz.prog Tryz.f4 (OpenSpec.ofChange Rows.soapKnownSpec) false w args)
      (Rows.soapKnownSpec.post enc Tryz.prog Tryz.f4 false true false false) := by
  refine returnsInHanded_of_change_and (C := Tryz.checked) (X := fun w _ => laidMetH Tryz.prog Rows.soapKnownRow.laid w) (fun _ _ _ hh h => h.of_heap hh) own started (by kernel_rfl) Tryz.func4
    (ChangeSpec.witness_shaped (enc := enc) (C := Tryz.checked) (os := os) (X := fun w _ => laidMetH Tryz.prog Rows.soapKnownRow.laid w) false (World.laidAll Tryz.prog os Rows.soapKnownRow.laid) #[] 8 (World.laidAll_os _ _ _)
      (World.shaped_of_ZipB (by kernel_rfl) (by kernel_rfl)) (by kernel_rfl) (by kernel_rfl) (by kernel_rfl) (laidAll_met os _)) ?_
  intro W base args ds gs before hval0 hW _ _ hL0 _
  have hL : laidMet Tryz.prog Rows.soapKnownRow.laid W := by rw [← plain]; exact hL0
  have hp : Tryz.f4.params = #[] := by kernel_rfl
  have hval : ∀ (j : Nat) t v, Tryz.f4.params[j]? = some t → args[j]? = some v → Value.okWide Tryz.prog W .any base t v := hval0
  have hW' := hW
  obtain ⟨p, q, hA0, hV, rfl, hfz, hnd⟩ := hW
  have hA : DataW.TrodAll enc Tryz.prog W 0 (fun _ => true) true Tryz.f4.params.toList args.toList ds p := hA0
  rw [hp] at hA hval
  obtain ⟨rfl, rfl, rfl⟩ := trodAll_none hA
  refine (calls_closedL Bodies.xc Bodies.tabOk ran W (tabs hL) rfl).mono fun e W' ⟨he, hg⟩ => ?_
  subst he
  exact ⟨_, rfl, post_of_below kids (slices_ok sizes) (by rw [hp]; decide +kernel) hW' rfl rfl (by kernel_rfl) Tryz.underlying4 hg⟩

set_option maxHeartbeats 8000000 in
theorem held : Rows.SoapKnownSaid :=
  OpenClaim.holds_of_wide 4 Tryz.f4 rfl rfl rfl rfl rfl rfl rfl ⟨rfl, rfl, rfl, rfl, rfl⟩ rfl rfl rfl rfl rfl (by kernel_rfl) Tryz.func4
    (by unfold joinedFacts; exact and2 (and2 (and2 (and2 (and2 (and2 (and2 (and2 (and2 (and2 (and2 (and2 (and2 (and2 (and2 (and2 (and2 (and2 (and2 (and2 (and2 (and2 (and2 (and2 (and2 (and2 (and2 (and2 (and2 (and2 (and2 (by as_aux_lemma => kernel_rfl) laid) rowed) (by as_aux_lemma => kernel_rfl)) (by as_aux_lemma => kernel_rfl)) (by as_aux_lemma => kernel_rfl)) stops) (by as_aux_lemma => kernel_rfl)) knobs) (by as_aux_lemma => kernel_rfl)) (by as_aux_lemma => kernel_rfl)) (by as_aux_lemma => kernel_rfl)) (by as_aux_lemma => kernel_rfl)) (by as_aux_lemma => kernel_rfl)) (by as_aux_lemma => kernel_rfl)) (by as_aux_lemma => kernel_rfl)) (by as_aux_lemma => kernel_rfl)) (by as_aux_lemma => kernel_rfl)) (by as_aux_lemma => kernel_rfl)) (by as_aux_lemma => kernel_rfl)) (by as_aux_lemma => kernel_rfl)) (by as_aux_lemma => kernel_rfl)) (by as_aux_lemma => kernel_rfl)) (by as_aux_lemma => kernel_rfl)) heard) enter) (by as_aux_lemma => kernel_rfl)) (by as_aux_lemma => kernel_rfl)) (by as_aux_lemma => kernel_rfl)) (by as_aux_lemma => kernel_rfl)) (by as_aux_lemma => kernel_rfl)) (by as_aux_lemma => kernel_rfl))
    (of_decide_eq_true (by kernel_rfl)) (by unfold Func.isWrapper; first | (rw [if_pos (by decide +kernel)]; kernel_rfl) | (rw [if_neg (by decide +kernel)]; exact ⟨rfl, rfl⟩))
    (fun os started H enc _ => lifted os started H enc)

set_option maxHeartbeats 8000000 in
theorem proved : Rows.SoapKnownCardSaid :=
  Claim7.holds_tied_plain_at .later [] [.data, .data, .data, .data, .sentinel, .sentinel, .pinned] true (true, "ca332eb359dc1b10a69482e0be103e1c16d056a28564f46303def4fd668800a0") true held (fun _ h => by cases h) (by kernel_rfl) (fun _ h => by cases h) soapKnown_row_tie rfl ⟨rfl, rfl⟩ (by kernel_rfl) rfl
    (fun f fn hf hfn => by
      obtain rfl : f = 4 := Option.some.inj ((show Tryz.prog.funcNamed "gatehouse/gatehouselaw26.SoapKnown" = some 4 by kernel_rfl).symm.trans hf) |>.symm
      obtain rfl : fn = Tryz.f4 := (Option.some.inj (Tryz.func4.symm.trans hfn)).symm
      exact ⟨by kernel_rfl, fun j t ht => by
        have hp : Tryz.f4.params = #[] := by kernel_rfl
        rw [hp] at ht
        have hm : t ∈ ([] : List TypeId) := by simpa using Array.mem_of_getElem? ht
        have hall : (([] : List TypeId).all fun u => !Tryz.prog.wantsStandIn u) = true := by kernel_rfl
        exact (show Tryz.prog.wantsStandIn t = false by simpa using List.all_eq_true.1 hall t hm)⟩)
    (by kernel_rfl)
end Go.Proofs.YtbkhielalbbopaaGreatDoor.soapKnown
