/- SoapLists returns true, whatever the number. Condition: the table of tens holds what the row lists (the card ties it to the text). -/
import Derived.Test.YtbkhielalbbopaaGreatDoorRows
import Derived.Test.YtbkhielalbbopaaGreatDoorCards
import Derived.Test.YtbkhielalbbopaaGreatDoorTie
import Derived.Test.YtbkhielalbbopaaGreatDoorFactsYtbkZ
import Derived.Test.YtbkhielalbbopaaGreatDoorSoapAw
import Derived.Test.YtbkhielalbbopaaGreatDoorVq9
import Derived.Test.YtbkhielalbbopaaGreatDoorM4
import Derived.Test.YtbkhielalbbopaaGreatDoorM5
import Derived.WalkKit
import Derived.ProofKit
import Derived.Lay
import Derived.LaidOnce
import Derived.SevenTiedAt
set_option maxRecDepth 100000
namespace Go.Proofs.YtbkhielalbbopaaGreatDoor.soapLists
open Go Go.ChangeShapes Go.WideShapes Go.ChangeAt Go.RowKit Go.Lib Go.Am Go.Proofs.YtbkhielalbbopaaGreatDoor.Facts

def tens : List Int := [1, 10, 100, 1000, 10000, 100000, 1000000, 10000000, 100000000, 1000000000, 10000000000, 100000000000, 1000000000000, 10000000000000, 100000000000000, 1000000000000000, 10000000000000000, 100000000000000000, 1000000000000000000, 10000000000000000000]
theorem tabs {W : World} (hL : laidMet Tryz.prog Rows.soapListsRow.laid W) : LaidAt W [(3, .u64, tens)] :=
  .cons (tabIs_of_reads (g := 3) (by kernel_rfl) (by kernel_rfl) Tryz.underlying203 Tryz.underlying177 (by kernel_rfl) (by kernel_rfl) (laidMet.reads hL (n := "internal/strconv.uint64pow10") (d := Rows.laid_internal_strconv_uint64pow10) (by simp [Rows.soapListsRow]))) (by kernel_rfl) (by decide) (by decide) (.nil W)

/-- The table of tens alone. -/
def memT : T B := T.l.put 3 (some (.c (tens.map (V.i .u64)) 0 false))
theorem hrelT (W : World) (h3 : LaidAt W [(3, .u64, tens)]) : HRel Tryz.prog W.heap.size j0 ⟨18, memT⟩ W := by
  refine HRel.start Tryz.prog W 18 _ (by decide) fun r c hc => ?_
  unfold memT at hc
  rw [T.get_put] at hc
  by_cases r2 : 3 = r
  · rw [if_pos r2] at hc
    cases hc
    subst r2
    obtain ⟨_, h4, h5⟩ := h3 _ (List.mem_cons_self ..)
    refine ⟨by decide, laid_lt (h5 0 1 rfl), _, _, rfl, fun i x hx => ?_⟩
    rw [List.getElem?_map] at hx
    obtain ⟨z, hz', rfl⟩ := Option.map_eq_some_iff.1 hx
    exact ⟨_, by rw [Nat.zero_add]; exact h5 i z hz', rfl⟩
  · rw [if_neg r2] at hc
    simp [T.get] at hc

theorem walk (a0 : Int) (W : World) (hL : laidMet Tryz.prog Rows.soapListsRow.laid W) : Calls Tryz.prog 7 #[.int .i64 a0] W fun e w' => e = .returned (.bool true) ∧ Below W.heap.size W w' := by
  have R := hrelT W (tabs hL)
  have g3 : memT.get 3 = some (.c (tens.map (V.i .u64)) 0 false) := by
    unfold memT
    rw [T.get_put, if_pos rfl]
  have P : Wb.P10 ⟨18, memT⟩ := ⟨_, 0, false, g3, rfl, rfl, by show 3 < 18; decide⟩
  have main : Ok Tryz.prog 100 7 [.i .i64 a0] ⟨18, memT⟩ (fun v _ => v = .b true) :=
    Wb.lists_law (n := 99) (by decide) (fun r c hc => R.next r c hc) P (fun k => ok_true' Wb.aw8 rfl fun g' hb f => k g' hb f) fun _ => rfl
  exact calls_ok main R (rens_mk rfl rfl) fun r hr => by
    unfold j0
    have : 18 ≤ r := hr
    rw [if_neg (by omega)]

theorem plain : ∀ w, laidMetH Tryz.prog Rows.soapListsRow.laid w = laidMet Tryz.prog Rows.soapListsRow.laid w := fun w => MakeChecks.laidMetH_plain _ _ _ (by as_aux_lemma => kernel_rfl)
theorem laidAll_met (os : Os) (args : Array Value) : laidMetH Tryz.prog Rows.soapListsRow.laid ((World.laidAll Tryz.prog os Rows.soapListsRow.laid).forCall (fun _ _ => 0) ⟨#[], args, []⟩).memory := by
  rw [plain]
  exact laidMet_laidAll _ (by as_aux_lemma => kernel_rfl) (by as_aux_lemma => kernel_rfl)

theorem lifted (os : Os) (started : os.Started) (H : Type) (enc : TypeId × Value → H) :
    ReturnsInHanded {} Tryz.checked os 7 .any (fun w args => (Rows.soapListsSpec.pre enc Tryz.prog Tryz.f7 [] false w args ∧ laidMetH Tryz.prog Rows.soapListsRow.laid w) ∧ sizedMet enc Tryz.prog Tryz.f7 (OpenSpec.ofChange Rows.soapListsSpec) false w args)
      (Rows.soapListsSpec.post enc Tryz.prog Tryz.f7 false true false false) := by
  refine handed_and_shaped (C := Tryz.checked) (X := fun w _ => laidMetH Tryz.prog Rows.soapListsRow.laid w) (fun _ _ _ hh h => h.of_heap hh) own started (by as_aux_lemma => kernel_rfl) Tryz.func7
    (ChangeSpec.witness_shaped (enc := enc) (C := Tryz.checked) (os := os) (X := fun w _ => laidMetH Tryz.prog Rows.soapListsRow.laid w) false (World.laidAll Tryz.prog os Rows.soapListsRow.laid) #[.int .i64 0] 8 (World.laidAll_os _ _ _)
      (World.shaped_of_ZipB (by as_aux_lemma => kernel_rfl) (by as_aux_lemma => kernel_rfl)) (by as_aux_lemma => kernel_rfl) (by as_aux_lemma => kernel_rfl) (by as_aux_lemma => kernel_rfl) (laidAll_met os _)) ?_
  intro W base args ds gs before hS hval0 hW hL0
  have hL : laidMet Tryz.prog Rows.soapListsRow.laid W := by rw [← plain]; exact hL0
  have hp : Tryz.f7.params = #[3] := by kernel_rfl
  have hval : ∀ (j : Nat) t v, Tryz.f7.params[j]? = some t → args[j]? = some v → Value.okWide Tryz.prog W .any base t v := hval0
  have hW' := hW
  obtain ⟨p, q, hA0, hV, rfl, hfz, hnd⟩ := hW
  have hA : DataW.TrodAll enc Tryz.prog W 0 (fun _ => true) true Tryz.f7.params.toList args.toList ds p := hA0
  rw [hp] at hA hval
  obtain ⟨v0, vs0, d0, ds0, p0, q0, hargs, rfl, rfl, h0, r0⟩ := trodAll_cons hA
  obtain ⟨rfl, rfl, rfl⟩ := trodAll_nil r0
  obtain rfl : args = #[v0] := by cases args; simp_all
  obtain ⟨a0, rfl, rfl, rfl, w0⟩ := open_int Tryz.underlying3 (hval 0 3 v0 rfl rfl) h0
  refine (walk a0 W hL).mono fun e W' ⟨he, hg⟩ => ?_
  subst he
  exact ⟨_, rfl, post_of_below kids (slices_ok sizes) (by rw [hp]; decide +kernel) hW' rfl rfl (by as_aux_lemma => kernel_rfl) Tryz.underlying4 hg⟩

set_option maxHeartbeats 8000000 in
theorem held : Rows.SoapListsSaid :=
  OpenClaim.holds_of_wide 7 Tryz.f7 rfl rfl rfl rfl rfl rfl rfl ⟨rfl, rfl, rfl, rfl, rfl⟩ rfl rfl rfl rfl rfl (by as_aux_lemma => kernel_rfl) Tryz.func7
    (by unfold joinedFacts; exact and2 (and2 (and2 (and2 (and2 (and2 (and2 (and2 (and2 (and2 (and2 (and2 (and2 (and2 (and2 (and2 (and2 (and2 (and2 (and2 (and2 (and2 (and2 (and2 (and2 (and2 (and2 (and2 (and2 (and2 (and2 (by as_aux_lemma => kernel_rfl) laid) rowed) (by as_aux_lemma => kernel_rfl)) (by as_aux_lemma => kernel_rfl)) (by as_aux_lemma => kernel_rfl)) stops) (by as_aux_lemma => kernel_rfl)) knobs) (by as_aux_lemma => kernel_rfl)) (by as_aux_lemma => kernel_rfl)) (by as_aux_lemma => kernel_rfl)) (by as_aux_lemma => kernel_rfl)) (by as_aux_lemma => kernel_rfl)) (by as_aux_lemma => kernel_rfl)) (by as_aux_lemma => kernel_rfl)) (by as_aux_lemma => kernel_rfl)) (by as_aux_lemma => kernel_rfl)) (by as_aux_lemma => kernel_rfl)) (by as_aux_lemma => kernel_rfl)) (by as_aux_lemma => kernel_rfl)) (by as_aux_lemma => kernel_rfl)) (by as_aux_lemma => kernel_rfl)) (by as_aux_lemma => kernel_rfl)) heard) enter) (by as_aux_lemma => kernel_rfl)) (by as_aux_lemma => kernel_rfl)) (by as_aux_lemma => kernel_rfl)) (by as_aux_lemma => kernel_rfl)) (by as_aux_lemma => kernel_rfl)) (by as_aux_lemma => kernel_rfl))
    (of_decide_eq_true (by as_aux_lemma => kernel_rfl)) (by unfold Func.isWrapper; first | (rw [if_pos (by decide +kernel)]; kernel_rfl) | (rw [if_neg (by decide +kernel)]; exact ⟨rfl, rfl⟩))
    (fun os started H enc _ => lifted os started H enc)

set_option maxHeartbeats 8000000 in
theorem proved : Rows.SoapListsCardSaid :=
  Claim7.holds_tied_plain_at .later [] [.data, .data, .data, .data, .sentinel, .sentinel, .pinned] true (true, "ca332eb359dc1b10a69482e0be103e1c16d056a28564f46303def4fd668800a0") true held (fun _ h => by cases h) (by as_aux_lemma => kernel_rfl) (fun _ h => by cases h) soapLists_row_tie rfl ⟨rfl, rfl⟩ (by as_aux_lemma => kernel_rfl) rfl
    (fun f fn hf hfn => by
      obtain rfl : f = 7 := Option.some.inj ((show Tryz.prog.funcNamed "gatehouse/gatehouselaw26.SoapLists" = some 7 by as_aux_lemma => kernel_rfl).symm.trans hf) |>.symm
      obtain rfl : fn = Tryz.f7 := (Option.some.inj (Tryz.func7.symm.trans hfn)).symm
      exact ⟨(by as_aux_lemma => kernel_rfl), fun j t ht => by
        have hp : Tryz.f7.params = #[3] := by kernel_rfl
        rw [hp] at ht
        have hm : t ∈ ([3] : List TypeId) := by simpa using Array.mem_of_getElem? ht
        have hall : (([3] : List TypeId).all fun u => !Tryz.prog.wantsStandIn u) = true := by kernel_rfl
        exact (show Tryz.prog.wantsStandIn t = false by simpa using List.all_eq_true.1 hall t hm)⟩)
    (by as_aux_lemma => kernel_rfl)
end Go.Proofs.YtbkhielalbbopaaGreatDoor.soapLists
