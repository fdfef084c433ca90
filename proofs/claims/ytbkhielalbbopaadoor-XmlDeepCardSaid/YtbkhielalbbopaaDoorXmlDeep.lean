/- XmlDeep returns true, whatever the integer. Condition: the library tables that its row lists hold what they are laid as (the card ties them to the text). -/
import Derived.Test.YtbkhielalbbopaaDoorRows
import Derived.Test.YtbkhielalbbopaaDoorCards
import Derived.Test.YtbkhielalbbopaaDoorTie
import Derived.Test.YtbkhielalbbopaaDoorFactsYtbkD
import Derived.Test.YtbkhielalbbopaaDoorM6
import Derived.Test.YtbkhielalbbopaaDoorBxT
import Derived.Test.YtbkhielalbbopaaDoorXmlDeepW
import Derived.Test.YtbkhielalbbopaaDoorXmlDeepW0
import Derived.Test.YtbkhielalbbopaaDoorXmlDeepW1
import Derived.Test.YtbkhielalbbopaaDoorXmlDeepW2
import Derived.Test.YtbkhielalbbopaaDoorXmlDeepW3
import Derived.Test.YtbkhielalbbopaaDoorXmlDeepW4
import Derived.Test.YtbkhielalbbopaaDoorXmlDeepW5
import Derived.Test.YtbkhielalbbopaaDoorXmlDeepW6
import Derived.Test.YtbkhielalbbopaaDoorXmlDeepW7
import Derived.Test.YtbkhielalbbopaaDoorXmlDeepW8
import Derived.Test.YtbkhielalbbopaaDoorXmlDeepW9
import Derived.Test.YtbkhielalbbopaaDoorXmlDeepW10
import Derived.Test.YtbkhielalbbopaaDoorXmlDeepW11
import Derived.Test.YtbkhielalbbopaaDoorXmlDeepW12
import Derived.WalkKit
import Derived.ProofKit
import Derived.Lay
import Derived.LaidOnce
import Derived.SevenTiedAt
set_option maxRecDepth 100000
namespace Go.Proofs.YtbkhielalbbopaaDoor.xmlDeep
open Go Go.ChangeShapes Go.WideShapes Go.ChangeAt Go.RowKit Go.Lib Go.Am Go.Proofs.YtbkhielalbbopaaDoor.Facts

theorem walk (a : Int) (W : World) : Calls Tryd.prog 6 #[.int .i64 a] W fun e w' => e = .returned (.bool true) ∧ Below W.heap.size W w' := by
  by_cases h1 : a < 1
  · exact calls_namesT (l := [a]) Bodies.xc Bodies.tabOk ranA fitsA ⟨h1, trivial⟩ W fun k => by
      simp only [vals, val_nameV]
      rfl
  by_cases h2 : 40 < a
  · exact calls_namesT (l := [a]) Bodies.xc Bodies.tabOk ranB fitsB ⟨h1, h2, trivial⟩ W fun k => by
      simp only [vals, val_nameV]
      rfl
  have h : a = 1 ∨ a = 2 ∨ a = 3 ∨ a = 4 ∨ a = 5 ∨ a = 6 ∨ a = 7 ∨ a = 8 ∨ a = 9 ∨ a = 10 ∨ a = 11 ∨ a = 12 ∨ a = 13 ∨ a = 14 ∨ a = 15 ∨ a = 16 ∨ a = 17 ∨ a = 18 ∨ a = 19 ∨ a = 20 ∨ a = 21 ∨ a = 22 ∨ a = 23 ∨ a = 24 ∨ a = 25 ∨ a = 26 ∨ a = 27 ∨ a = 28 ∨ a = 29 ∨ a = 30 ∨ a = 31 ∨ a = 32 ∨ a = 33 ∨ a = 34 ∨ a = 35 ∨ a = 36 ∨ a = 37 ∨ a = 38 ∨ a = 39 ∨ a = 40 := by omega
  rcases h with rfl | rfl | rfl | rfl | rfl | rfl | rfl | rfl | rfl | rfl | rfl | rfl | rfl | rfl | rfl | rfl | rfl | rfl | rfl | rfl | rfl | rfl | rfl | rfl | rfl | rfl | rfl | rfl | rfl | rfl | rfl | rfl | rfl | rfl | rfl | rfl | rfl | rfl | rfl | rfl
  · exact calls_closedL Bodies.xc Bodies.tabOk ran1 W (.nil W) rfl
  · exact calls_closedL Bodies.xc Bodies.tabOk ran2 W (.nil W) rfl
  · exact calls_closedL Bodies.xc Bodies.tabOk ran3 W (.nil W) rfl
  · exact calls_closedL Bodies.xc Bodies.tabOk ran4 W (.nil W) rfl
  · exact calls_closedL Bodies.xc Bodies.tabOk ran5 W (.nil W) rfl
  · exact calls_closedL Bodies.xc Bodies.tabOk ran6 W (.nil W) rfl
  · exact calls_closedL Bodies.xc Bodies.tabOk ran7 W (.nil W) rfl
  · exact calls_closedL Bodies.xc Bodies.tabOk ran8 W (.nil W) rfl
  · exact calls_closedL Bodies.xc Bodies.tabOk ran9 W (.nil W) rfl
  · exact calls_closedL Bodies.xc Bodies.tabOk ran10 W (.nil W) rfl
  · exact calls_closedL Bodies.xc Bodies.tabOk ran11 W (.nil W) rfl
  · exact calls_closedL Bodies.xc Bodies.tabOk ran12 W (.nil W) rfl
  · exact calls_closedL Bodies.xc Bodies.tabOk ran13 W (.nil W) rfl
  · exact calls_closedL Bodies.xc Bodies.tabOk ran14 W (.nil W) rfl
  · exact calls_closedL Bodies.xc Bodies.tabOk ran15 W (.nil W) rfl
  · exact calls_closedL Bodies.xc Bodies.tabOk ran16 W (.nil W) rfl
  · exact calls_closedL Bodies.xc Bodies.tabOk ran17 W (.nil W) rfl
  · exact calls_closedL Bodies.xc Bodies.tabOk ran18 W (.nil W) rfl
  · exact calls_closedL Bodies.xc Bodies.tabOk ran19 W (.nil W) rfl
  · exact calls_closedL Bodies.xc Bodies.tabOk ran20 W (.nil W) rfl
  · exact calls_closedL Bodies.xc Bodies.tabOk ran21 W (.nil W) rfl
  · exact calls_closedL Bodies.xc Bodies.tabOk ran22 W (.nil W) rfl
  · exact calls_closedL Bodies.xc Bodies.tabOk ran23 W (.nil W) rfl
  · exact calls_closedL Bodies.xc Bodies.tabOk ran24 W (.nil W) rfl
  · exact calls_closedL Bodies.xc Bodies.tabOk ran25 W (.nil W) rfl
  · exact calls_closedL Bodies.xc Bodies.tabOk ran26 W (.nil W) rfl
  · exact calls_closedL Bodies.xc Bodies.tabOk ran27 W (.nil W) rfl
  · exact calls_closedL Bodies.xc Bodies.tabOk ran28 W (.nil W) rfl
  · exact calls_closedL Bodies.xc Bodies.tabOk ran29 W (.nil W) rfl
  · exact calls_closedL Bodies.xc Bodies.tabOk ran30 W (.nil W) rfl
  · exact calls_closedL Bodies.xc Bodies.tabOk ran31 W (.nil W) rfl
  · exact calls_closedL Bodies.xc Bodies.tabOk ran32 W (.nil W) rfl
  · exact calls_closedL Bodies.xc Bodies.tabOk ran33 W (.nil W) rfl
  · exact calls_closedL Bodies.xc Bodies.tabOk ran34 W (.nil W) rfl
  · exact calls_closedL Bodies.xc Bodies.tabOk ran35 W (.nil W) rfl
  · exact calls_closedL Bodies.xc Bodies.tabOk ran36 W (.nil W) rfl
  · exact calls_closedL Bodies.xc Bodies.tabOk ran37 W (.nil W) rfl
  · exact calls_closedL Bodies.xc Bodies.tabOk ran38 W (.nil W) rfl
  · exact calls_closedL Bodies.xc Bodies.tabOk ran39 W (.nil W) rfl
  · exact calls_closedL Bodies.xc Bodies.tabOk ran40 W (.nil W) rfl

theorem plain : ∀ w, laidMetH Tryd.prog Rows.xmlDeepRow.laid w = laidMet Tryd.prog Rows.xmlDeepRow.laid w := fun w => MakeChecks.laidMetH_plain _ _ _ (by kernel_rfl)
theorem laidAll_met (os : Os) (args : Array Value) : laidMetH Tryd.prog Rows.xmlDeepRow.laid ((World.laidAll Tryd.prog os Rows.xmlDeepRow.laid).forCall (fun _ _ => 0) ⟨#[], args, []⟩).memory := by
  rw [plain]
  exact laidMet_laidAll _ (by kernel_rfl) (by kernel_rfl)

theorem lifted (os : Os) (started : os.Started) (H : Type) (enc : TypeId × Value → H) :
    ReturnsInHanded {} Tryd.checked os 6 .any (fun w args => (Rows.xmlDeepSpec.pre enc Tryd.prog Tryd.f6 [] false w args ∧ laidMetH Tryd.prog Rows.xmlDeepRow.laid w) ∧ sizedMet enc Tryd.prog Tryd.f6 (OpenSpec.ofChange Rows.xmlDeepSpec) false w args)
      (Rows.xmlDeepSpec.post enc Tryd.prog Tryd.f6 false true false false) := by
  refine returnsInHanded_of_change_and (C := Tryd.checked) (X := fun w _ => laidMetH Tryd.prog Rows.xmlDeepRow.laid w) (fun _ _ _ hh h => h.of_heap hh) own started (by kernel_rfl) Tryd.func6
    (ChangeSpec.witness_shaped (enc := enc) (C := Tryd.checked) (os := os) (X := fun w _ => laidMetH Tryd.prog Rows.xmlDeepRow.laid w) false (World.laidAll Tryd.prog os Rows.xmlDeepRow.laid) #[.int .i64 0] 8 (World.laidAll_os _ _ _)
      (World.shaped_of_ZipB (by kernel_rfl) (by kernel_rfl)) (by kernel_rfl) (by kernel_rfl) (by kernel_rfl) (laidAll_met os _)) ?_
  intro W base args ds gs before hval0 hW _ _ hL0 _
  have hL : laidMet Tryd.prog Rows.xmlDeepRow.laid W := by rw [← plain]; exact hL0
  have hp : Tryd.f6.params = #[3] := by kernel_rfl
  have hval : ∀ (j : Nat) t v, Tryd.f6.params[j]? = some t → args[j]? = some v → Value.okWide Tryd.prog W .any base t v := hval0
  have hW' := hW
  obtain ⟨p, q, hA0, hV, rfl, hfz, hnd⟩ := hW
  have hA : DataW.TrodAll enc Tryd.prog W 0 (fun _ => true) true Tryd.f6.params.toList args.toList ds p := hA0
  rw [hp] at hA hval
  obtain ⟨v0, vs0, d0, ds0, p0, q0, hargs, rfl, rfl, h0, r0⟩ := trodAll_cons hA
  obtain ⟨rfl, rfl, rfl⟩ := trodAll_nil r0
  obtain rfl : args = #[v0] := by cases args; simp_all
  obtain ⟨a0, rfl, rfl, rfl, w0⟩ := open_int Tryd.underlying3 (hval 0 3 v0 rfl rfl) h0
  refine (walk a0 W).mono fun e W' ⟨he, hg⟩ => ?_
  subst he
  exact ⟨_, rfl, post_of_below kids (slices_ok sizes) (by rw [hp]; decide +kernel) hW' rfl rfl (by kernel_rfl) Tryd.underlying4 hg⟩

set_option maxHeartbeats 8000000 in
theorem held : Rows.XmlDeepSaid :=
  OpenClaim.holds_of_wide 6 Tryd.f6 rfl rfl rfl rfl rfl rfl rfl ⟨rfl, rfl, rfl, rfl, rfl⟩ rfl rfl rfl rfl rfl (by kernel_rfl) Tryd.func6
    (by unfold joinedFacts; exact and2 (and2 (and2 (and2 (and2 (and2 (and2 (and2 (and2 (and2 (and2 (and2 (and2 (and2 (and2 (and2 (and2 (and2 (and2 (and2 (and2 (and2 (and2 (and2 (and2 (and2 (and2 (and2 (and2 (and2 (and2 (by as_aux_lemma => kernel_rfl) laid) rowed) (by as_aux_lemma => kernel_rfl)) (by as_aux_lemma => kernel_rfl)) (by as_aux_lemma => kernel_rfl)) stops) (by as_aux_lemma => kernel_rfl)) knobs) (by as_aux_lemma => kernel_rfl)) (by as_aux_lemma => kernel_rfl)) (by as_aux_lemma => kernel_rfl)) (by as_aux_lemma => kernel_rfl)) (by as_aux_lemma => kernel_rfl)) (by as_aux_lemma => kernel_rfl)) (by as_aux_lemma => kernel_rfl)) (by as_aux_lemma => kernel_rfl)) (by as_aux_lemma => kernel_rfl)) (by as_aux_lemma => kernel_rfl)) (by as_aux_lemma => kernel_rfl)) (by as_aux_lemma => kernel_rfl)) (by as_aux_lemma => kernel_rfl)) (by as_aux_lemma => kernel_rfl)) (by as_aux_lemma => kernel_rfl)) heard) enter) (by as_aux_lemma => kernel_rfl)) (by as_aux_lemma => kernel_rfl)) (by as_aux_lemma => kernel_rfl)) (by as_aux_lemma => kernel_rfl)) (by as_aux_lemma => kernel_rfl)) (by as_aux_lemma => kernel_rfl))
    (of_decide_eq_true (by kernel_rfl)) (by unfold Func.isWrapper; first | (rw [if_pos (by decide +kernel)]; kernel_rfl) | (rw [if_neg (by decide +kernel)]; exact ⟨rfl, rfl⟩))
    (fun os started H enc _ => lifted os started H enc)

set_option maxHeartbeats 8000000 in
theorem proved : Rows.XmlDeepCardSaid :=
  Claim7.holds_tied_plain_at .later [] [.data, .data, .data, .data, .sentinel, .sentinel, .pinned] true (true, "327adbd85e3f3614c423e6d8def3aa6671582508278f47ae717d1714a0c01c39") true held (fun _ h => by cases h) (by kernel_rfl) (fun _ h => by cases h) xmlDeep_row_tie rfl ⟨rfl, rfl⟩ (by kernel_rfl) rfl
    (fun f fn hf hfn => by
      obtain rfl : f = 6 := Option.some.inj ((show Tryd.prog.funcNamed "gatehouse/gatehouselaw25.XmlDeep" = some 6 by kernel_rfl).symm.trans hf) |>.symm
      obtain rfl : fn = Tryd.f6 := (Option.some.inj (Tryd.func6.symm.trans hfn)).symm
      exact ⟨by kernel_rfl, fun j t ht => by
        have hp : Tryd.f6.params = #[3] := by kernel_rfl
        rw [hp] at ht
        have hm : t ∈ ([3] : List TypeId) := by simpa using Array.mem_of_getElem? ht
        have hall : (([3] : List TypeId).all fun u => !Tryd.prog.wantsStandIn u) = true := by kernel_rfl
        exact (show Tryd.prog.wantsStandIn t = false by simpa using List.all_eq_true.1 hall t hm)⟩)
    (by kernel_rfl)
end Go.Proofs.YtbkhielalbbopaaDoor.xmlDeep
