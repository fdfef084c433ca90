/- XmlKnown returns true. It has no parameters. Condition: the library tables that its row lists hold what they are laid as (the card ties them to the text); MaxLen may hold whatever integer. -/
import Derived.Test.YtbkhielalbbopaaDoorRows
import Derived.Test.YtbkhielalbbopaaDoorCards
import Derived.Test.YtbkhielalbbopaaDoorTie
import Derived.Test.YtbkhielalbbopaaDoorFactsYtbkD
import Derived.Test.YtbkhielalbbopaaDoorM6
import Derived.Test.YtbkhielalbbopaaDoorBxT
import Derived.Test.YtbkhielalbbopaaDoorXmlKnownW
import Derived.Test.YtbkhielalbbopaaDoorM5
import Derived.WalkKit
import Derived.ProofKit
import Derived.Lay
import Derived.LaidOnce
import Derived.SevenTiedAt
set_option maxRecDepth 100000
namespace Go.Proofs.YtbkhielalbbopaaDoor.xmlKnown
open Go Go.ChangeShapes Go.WideShapes Go.ChangeAt Go.RowKit Go.Lib Go.Am Go.Proofs.YtbkhielalbbopaaDoor.Facts

theorem maxLen {W : World} (hS : W.ShapedOpen Tryd.prog) : ∃ m, W.cell? ⟨2, 0, none⟩ = some (.int .i64 m) :=
  Go.Proofs.cell_of_shapedOpen_int (zero := #[.int .i64 0]) hS (of_decide_eq_true (by kernel_rfl)) (by kernel_rfl) rfl (by kernel_rfl) (by kernel_rfl) Tryd.underlying3

theorem walk (W : World) (hS : W.ShapedOpen Tryd.prog) : Calls Tryd.prog 3 #[] W fun e w' => e = .returned (.bool true) ∧ Below W.heap.size W w' := by
  obtain ⟨m, hm⟩ := maxLen hS
  have hl : ∀ k, LaidAt W (tbVal (nmL ([m] ++ k)) tabl) := by
    intro k x hx
    simp only [tabl, tbVal, List.map_cons, List.map_nil, List.mem_singleton, nm0, vi_name] at hx
    subst hx
    refine ⟨by show 2 < 16; decide, by simp, fun i z hz => ?_⟩
    match i, hz with
    | 0, hz => simp [nmL] at hz; subst hz; exact hm
    | i + 1, hz => simp at hz
  by_cases h1 : (2 : Int) ≤ m
  · exact calls_namesTL (l := [m]) Bodies.xc Bodies.tabOk ranA fitsA ⟨h1, trivial⟩ W hl fun k => rfl
  · exact calls_namesTL (l := [m]) Bodies.xc Bodies.tabOk ranB fitsB ⟨h1, trivial⟩ W hl fun k => rfl

theorem plain : ∀ w, laidMetH Tryd.prog Rows.xmlKnownRow.laid w = laidMet Tryd.prog Rows.xmlKnownRow.laid w := fun w => MakeChecks.laidMetH_plain _ _ _ (by kernel_rfl)
theorem laidAll_met (os : Os) (args : Array Value) : laidMetH Tryd.prog Rows.xmlKnownRow.laid ((World.laidAll Tryd.prog os Rows.xmlKnownRow.laid).forCall (fun _ _ => 0) ⟨#[], args, []⟩).memory := by
  rw [plain]
  exact laidMet_laidAll _ (by kernel_rfl) (by kernel_rfl)

theorem lifted (os : Os) (started : os.Started) (H : Type) (enc : TypeId × Value → H) :
    ReturnsInHanded {} Tryd.checked os 3 .any (fun w args => (Rows.xmlKnownSpec.pre enc Tryd.prog Tryd.f3 [] false w args ∧ laidMetH Tryd.prog Rows.xmlKnownRow.laid w) ∧ sizedMet enc Tryd.prog Tryd.f3 (OpenSpec.ofChange Rows.xmlKnownSpec) false w args)
      (Rows.xmlKnownSpec.post enc Tryd.prog Tryd.f3 false true false false) := by
  refine handed_and_shaped (C := Tryd.checked) (X := fun w _ => laidMetH Tryd.prog Rows.xmlKnownRow.laid w) (fun _ _ _ hh h => h.of_heap hh) own started (by kernel_rfl) Tryd.func3
    (ChangeSpec.witness_shaped (enc := enc) (C := Tryd.checked) (os := os) (X := fun w _ => laidMetH Tryd.prog Rows.xmlKnownRow.laid w) false (World.laidAll Tryd.prog os Rows.xmlKnownRow.laid) #[] 8 (World.laidAll_os _ _ _)
      (World.shaped_of_ZipB (by kernel_rfl) (by kernel_rfl)) (by kernel_rfl) (by kernel_rfl) (by kernel_rfl) (laidAll_met os _)) ?_
  intro W base args ds gs before hS hval0 hW hL0
  have hL : laidMet Tryd.prog Rows.xmlKnownRow.laid W := by rw [← plain]; exact hL0
  have hp : Tryd.f3.params = #[] := by kernel_rfl
  have hval : ∀ (j : Nat) t v, Tryd.f3.params[j]? = some t → args[j]? = some v → Value.okWide Tryd.prog W .any base t v := hval0
  have hW' := hW
  obtain ⟨p, q, hA0, hV, rfl, hfz, hnd⟩ := hW
  have hA : DataW.TrodAll enc Tryd.prog W 0 (fun _ => true) true Tryd.f3.params.toList args.toList ds p := hA0
  rw [hp] at hA hval
  obtain ⟨rfl, rfl, rfl⟩ := trodAll_none hA
  refine (walk W hS).mono fun e W' ⟨he, hg⟩ => ?_
  subst he
  exact ⟨_, rfl, post_of_below kids (slices_ok sizes) (by rw [hp]; decide +kernel) hW' rfl rfl (by kernel_rfl) Tryd.underlying4 hg⟩

set_option maxHeartbeats 8000000 in
theorem held : Rows.XmlKnownSaid :=
  OpenClaim.holds_of_wide 3 Tryd.f3 rfl rfl rfl rfl rfl rfl rfl ⟨rfl, rfl, rfl, rfl, rfl⟩ rfl rfl rfl rfl rfl (by kernel_rfl) Tryd.func3
    (by unfold joinedFacts; exact and2 (and2 (and2 (and2 (and2 (and2 (and2 (and2 (and2 (and2 (and2 (and2 (and2 (and2 (and2 (and2 (and2 (and2 (and2 (and2 (and2 (and2 (and2 (and2 (and2 (and2 (and2 (and2 (and2 (and2 (and2 (by as_aux_lemma => kernel_rfl) laid) rowed) (by as_aux_lemma => kernel_rfl)) (by as_aux_lemma => kernel_rfl)) (by as_aux_lemma => kernel_rfl)) stops) (by as_aux_lemma => kernel_rfl)) knobs) (by as_aux_lemma => kernel_rfl)) (by as_aux_lemma => kernel_rfl)) (by as_aux_lemma => kernel_rfl)) (by as_aux_lemma => kernel_rfl)) (by as_aux_lemma => kernel_rfl)) (by as_aux_lemma => kernel_rfl)) (by as_aux_lemma => kernel_rfl)) (by as_aux_lemma => kernel_rfl)) (by as_aux_lemma => kernel_rfl)) (by as_aux_lemma => kernel_rfl)) (by as_aux_lemma => kernel_rfl)) (by as_aux_lemma => kernel_rfl)) (by as_aux_lemma => kernel_rfl)) (by as_aux_lemma => kernel_rfl)) (by as_aux_lemma => kernel_rfl)) heard) enter) (by as_aux_lemma => kernel_rfl)) (by as_aux_lemma => kernel_rfl)) (by as_aux_lemma => kernel_rfl)) (by as_aux_lemma => kernel_rfl)) (by as_aux_lemma => kernel_rfl)) (by as_aux_lemma => kernel_rfl))
    (of_decide_eq_true (by kernel_rfl)) (by unfold Func.isWrapper; first | (rw [if_pos (by decide +kernel)]; kernel_rfl) | (rw [if_neg (by decide +kernel)]; exact ⟨rfl, rfl⟩))
    (fun os started H enc _ => lifted os started H enc)

set_option maxHeartbeats 8000000 in
theorem proved : Rows.XmlKnownCardSaid :=
  Claim7.holds_tied_plain_at .later [] [.data, .data, .data, .data, .sentinel, .sentinel, .pinned] true (true, "327adbd85e3f3614c423e6d8def3aa6671582508278f47ae717d1714a0c01c39") true held (fun _ h => by cases h) (by kernel_rfl) (fun _ h => by cases h) xmlKnown_row_tie rfl ⟨rfl, rfl⟩ (by kernel_rfl) rfl
    (fun f fn hf hfn => by
      obtain rfl : f = 3 := Option.some.inj ((show Tryd.prog.funcNamed "gatehouse/gatehouselaw25.XmlKnown" = some 3 by kernel_rfl).symm.trans hf) |>.symm
      obtain rfl : fn = Tryd.f3 := (Option.some.inj (Tryd.func3.symm.trans hfn)).symm
      exact ⟨by kernel_rfl, fun j t ht => by
        have hp : Tryd.f3.params = #[] := by kernel_rfl
        rw [hp] at ht
        have hm : t ∈ ([] : List TypeId) := by simpa using Array.mem_of_getElem? ht
        have hall : (([] : List TypeId).all fun u => !Tryd.prog.wantsStandIn u) = true := by kernel_rfl
        exact (show Tryd.prog.wantsStandIn t = false by simpa using List.all_eq_true.1 hall t hm)⟩)
    (by kernel_rfl)
end Go.Proofs.YtbkhielalbbopaaDoor.xmlKnown
