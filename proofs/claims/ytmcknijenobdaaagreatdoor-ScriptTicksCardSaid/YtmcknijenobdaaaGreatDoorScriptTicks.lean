/- ScriptTicks returns true, whatever the two numbers. Condition: the tables of the globals and of the package variables of the libraries stand as laid when the program runs. -/
import Derived.Test.YtmcknijenobdaaaGreatDoorRows
import Derived.Test.YtmcknijenobdaaaGreatDoorCards
import Derived.Test.YtmcknijenobdaaaGreatDoorTieQ
import Derived.Test.YtmcknijenobdaaaGreatDoorFactsYtmcZ
import Derived.Test.YtmcknijenobdaaaGreatDoorFactsYtmcL
import Derived.Test.YtmcknijenobdaaaGreatDoorFactsYtmcG
import Derived.Test.YtmcknijenobdaaaGreatDoorScriptTicksC
import Derived.Test.YtmcknijenobdaaaGreatDoorAwQ
import Derived.Test.YtmcknijenobdaaaGreatDoorTk9
import Derived.Test.YtmcknijenobdaaaGreatDoorM4
import Derived.Test.YtmcknijenobdaaaGreatDoorM5
import Derived.WalkKit
import Derived.ProofKit
import Derived.Lay
import Derived.LaidOnce
import Derived.SevenTiedAt
set_option maxRecDepth 100000
namespace Go.Proofs.YtmcknijenobdaaaGreatDoor.scriptTicks
open Go Go.ChangeShapes Go.WideShapes Go.ChangeAt Go.RowKit Go.Lib Go.Am Go.Proofs.YtmcknijenobdaaaGreatDoor.Facts

theorem tabs {W : World} (hL : laidMet Tryz.prog Rows.scriptTicksRow.laid W) : LaidAt W [(0, .u64, Wb.tens)] :=
  .cons (tabIs_of_reads (g := 0) (by kernel_rfl) (by kernel_rfl) Tryz.underlying321 Tryz.underlying230 (by kernel_rfl) (by kernel_rfl) (laidMet.reads hL (n := "internal/strconv.uint64pow10") (d := Rows.laid_internal_strconv_uint64pow10) (by simp [Rows.scriptTicksRow]))) (by kernel_rfl) (by decide) (by decide) (.nil W)

/-- The table of tens alone. -/
def memT : T B := T.l.put 0 (some (.c (Wb.tens.map (V.i .u64)) 0 false))
theorem hrelT (W : World) (h3 : LaidAt W [(0, .u64, Wb.tens)]) : HRel Tryz.prog W.heap.size j0 ⟨16, memT⟩ W := by
  refine HRel.start Tryz.prog W 16 _ (by decide) fun r c hc => ?_
  unfold memT at hc
  rw [T.get_put] at hc
  by_cases r2 : 0 = r
  · rw [if_pos r2] at hc
    cases hc
    subst r2
    obtain ⟨_, h4, h5⟩ := h3 _ (List.mem_cons_self ..)
    refine ⟨by decide, laid_lt (h5 0 1 rfl), _, _, rfl, fun i x hx => ?_⟩
    rw [List.getElem?_map] at hx
    obtain ⟨z, hz', rfl⟩ := Option.map_eq_some_iff.1 hx
    exact ⟨_, by rw [Nat.zero_add]; exact h5 i z hz', rfl⟩
  · rw [if_neg r2] at hc
    simp [T.get] at hc

theorem walk (a0 a1 : Int) (W : World) (hL : laidMet Tryz.prog Rows.scriptTicksRow.laid W) : Calls Tryz.prog 3 #[.int .i64 a0, .int .i64 a1] W fun e w' => e = .returned (.bool true) ∧ Below W.heap.size W w' := by
  have R := hrelT W (tabs hL)
  have g3 : memT.get 0 = some (.c (Wb.tens.map (V.i .u64)) 0 false) := by
    unfold memT
    rw [T.get_put, if_pos rfl]
  have G : Gl ⟨16, memT⟩ Wb.G10 := fun r b hb => by
    simp only [Wb.G10, List.mem_singleton, Prod.mk.injEq] at hb
    obtain ⟨rfl, rfl⟩ := hb
    exact ⟨by decide, fun j => by simp only [rnB, List.map_map]; rfl, g3⟩
  have main : Ok Tryz.prog 100 3 [.i .i64 a0, .i .i64 a1] ⟨16, memT⟩ (fun v _ => v = .b true) :=
    Wb.ticks_law (by decide) (fun r c hc => R.next r c hc) G a0 a1 (fun {K} c => ok_true' aw rfl fun g' hb f => c g' hb f) fun _ => rfl
  exact calls_ok main R (rens_mk rfl rfl) fun r hr => by
    unfold j0
    have : 16 ≤ r := hr
    rw [if_neg (by omega)]

theorem plain : ∀ w, laidMetH Tryz.prog Rows.scriptTicksRow.laid w = laidMet Tryz.prog Rows.scriptTicksRow.laid w := fun w => MakeChecks.laidMetH_plain _ _ _ (by as_aux_lemma => kernel_rfl)
theorem laidAll_met (os : Os) (args : Array Value) : laidMetH Tryz.prog Rows.scriptTicksRow.laid ((World.laidAll Tryz.prog os LL).forCall (fun _ _ => 0) ⟨#[], args, []⟩).memory := by
  rw [plain]
  exact met os args

set_option maxHeartbeats 8000000 in
theorem lifted (os : Os) (started : os.Started) (H : Type) (enc : TypeId × Value → H) :
    ReturnsInHanded {} Tryz.checked os 3 .any (fun w args => (Rows.scriptTicksSpec.pre enc Tryz.prog Tryz.f3 [] false w args ∧ laidMetH Tryz.prog Rows.scriptTicksRow.laid w) ∧ sizedMet enc Tryz.prog Tryz.f3 (OpenSpec.ofChange Rows.scriptTicksSpec) false w args)
      (Rows.scriptTicksSpec.post enc Tryz.prog Tryz.f3 false true false false) := by
  refine handed_and_shaped (C := Tryz.checked) (X := (fun w _ => laidMetH Tryz.prog Rows.scriptTicksRow.laid w)) (fun _ _ _ hh h => h.of_heap hh) own started (by as_aux_lemma => kernel_rfl) Tryz.func3
    (ChangeSpec.witness_shaped (enc := enc) (C := Tryz.checked) (os := os) (X := (fun w _ => laidMetH Tryz.prog Rows.scriptTicksRow.laid w)) false (World.laidAll Tryz.prog os LL) #[.int .i64 0, .int .i64 0] 8 (World.laidAll_os _ _ _)
      (shaped os _) (by rw [laid_eq]; unfold World.holding World.settled begin; rw [wt]; as_aux_lemma => kernel_rfl) (by rw [laid_eq]; unfold World.holding World.settled begin; rw [wt]; as_aux_lemma => kernel_rfl) (by rw [laid_eq]; unfold World.holding World.settled begin; rw [wt]; as_aux_lemma => kernel_rfl) (laidAll_met os _)) ?_
  intro W base args ds gs before hS hval0 hW hL0
  have hL : laidMet Tryz.prog Rows.scriptTicksRow.laid W := by rw [← plain]; exact hL0
  have hp : Tryz.f3.params = #[3, 3] := by kernel_rfl
  have hval : ∀ (j : Nat) t v, Tryz.f3.params[j]? = some t → args[j]? = some v → Value.okWide Tryz.prog W .any base t v := hval0
  have hW' := hW
  obtain ⟨p, q, hA0, hV, rfl, hfz, hnd⟩ := hW
  have hA : DataW.TrodAll enc Tryz.prog W 0 (fun _ => true) true Tryz.f3.params.toList args.toList ds p := hA0
  rw [hp] at hA hval
  obtain ⟨v0, vs0, d0, ds0, p0, q0, hargs, rfl, rfl, h0, r0⟩ := trodAll_cons hA
  obtain ⟨v1, vs1, d1, ds1, p1, q1, rfl, rfl, rfl, h1, r1⟩ := trodAll_cons r0
  obtain ⟨rfl, rfl, rfl⟩ := trodAll_nil r1
  obtain rfl : args = #[v0, v1] := by cases args; simp_all
  obtain ⟨a0, rfl, rfl, rfl, w0⟩ := open_int Tryz.underlying3 (hval 0 3 v0 rfl rfl) h0
  obtain ⟨a1, rfl, rfl, rfl, w1⟩ := open_int Tryz.underlying3 (hval 1 3 v1 rfl rfl) h1
  refine (walk a0 a1 W hL).mono fun e W' ⟨he, hg⟩ => ?_
  subst he
  exact ⟨_, rfl, post_of_below kids (slices_ok sizes) (by rw [hp]; decide +kernel) hW' rfl rfl (by as_aux_lemma => kernel_rfl) Tryz.underlying4 hg⟩

set_option maxHeartbeats 8000000 in
theorem joined : joinedFacts Tryz.pinned.checked.prog 3 Tryz.f3 Rows.scriptTicksSpec Rows.scriptTicksRow = true := by
  unfold joinedFacts
  exact (and2 (and2 (and2 (and2 (and2 (and2 (and2 (and2 (and2 (and2 (and2 (and2 (and2 (and2 (and2 (and2 (and2 (and2 (and2 (and2 (and2 (and2 (and2 (and2 (and2 (and2 (and2 (and2 (and2 (and2 (and2 (by as_aux_lemma => kernel_rfl) laid) rowed) (by as_aux_lemma => kernel_rfl)) (by as_aux_lemma => kernel_rfl)) (by as_aux_lemma => kernel_rfl)) stops) (by as_aux_lemma => kernel_rfl)) knobs) inPlaceE) unfolE2) recuE) namedE) (by as_aux_lemma => kernel_rfl)) (by as_aux_lemma => kernel_rfl)) (by as_aux_lemma => kernel_rfl)) (by as_aux_lemma => kernel_rfl)) (by as_aux_lemma => kernel_rfl)) (by as_aux_lemma => kernel_rfl)) (by as_aux_lemma => kernel_rfl)) (by as_aux_lemma => kernel_rfl)) (by as_aux_lemma => kernel_rfl)) plainK) (by as_aux_lemma => kernel_rfl)) heard) enter) liftsE) makeE) (by as_aux_lemma => kernel_rfl)) (by as_aux_lemma => kernel_rfl)) (by as_aux_lemma => kernel_rfl)) (by as_aux_lemma => kernel_rfl))
set_option maxHeartbeats 8000000 in
theorem held : Rows.ScriptTicksSaid :=
  OpenClaim.holds_of_wide 3 Tryz.f3 (by as_aux_lemma => rfl) (by as_aux_lemma => rfl) (by as_aux_lemma => rfl) (by as_aux_lemma => rfl) (by as_aux_lemma => rfl) (by as_aux_lemma => rfl) (by as_aux_lemma => rfl) ⟨(by as_aux_lemma => rfl), (by as_aux_lemma => rfl), (by as_aux_lemma => rfl), (by as_aux_lemma => rfl), (by as_aux_lemma => rfl)⟩ (by as_aux_lemma => rfl) (by as_aux_lemma => rfl) (by as_aux_lemma => rfl) (by as_aux_lemma => rfl) (by as_aux_lemma => rfl) fnm Tryz.func3 joined
    (of_decide_eq_true (by as_aux_lemma => kernel_rfl)) (by unfold Func.isWrapper; first | (rw [if_pos (by decide +kernel)]; kernel_rfl) | (rw [if_neg (by decide +kernel)]; exact ⟨rfl, rfl⟩))
    (fun os started H enc _ => lifted os started H enc)

set_option maxHeartbeats 8000000 in
theorem proved : Rows.ScriptTicksCardSaid :=
  Claim7.holds_tied_plain_at .later [] [.data, .data, .data, .data, .sentinel, .sentinel, .pinned] true (true, "4c7e5ac44d5b0815ac41eb1ee9b63e13351f16b666ec2f09ffa35087e85c4bd9") true held (fun _ h => by cases h) (by as_aux_lemma => kernel_rfl) (fun _ h => by cases h) scriptTicks_row_tie (by as_aux_lemma => rfl) ⟨(by as_aux_lemma => rfl), (by as_aux_lemma => rfl)⟩ mainE (by as_aux_lemma => rfl)
    (fun f fn hf hfn => by
      obtain rfl : f = 3 := Option.some.inj ((show Tryz.prog.funcNamed "gatehouse/gatehouselaw28.ScriptTicks" = some 3 from fnm).symm.trans hf) |>.symm
      obtain rfl : fn = Tryz.f3 := (Option.some.inj (Tryz.func3.symm.trans hfn)).symm
      exact ⟨looksT, fun j t ht => by
        have hp : Tryz.f3.params = #[3, 3] := by kernel_rfl
        rw [hp] at ht
        have hm : t ∈ ([3, 3] : List TypeId) := by simpa using Array.mem_of_getElem? ht
        have hall : (([3, 3] : List TypeId).all fun u => !Tryz.prog.wantsStandIn u) = true := by kernel_rfl
        exact (show Tryz.prog.wantsStandIn t = false by simpa using List.all_eq_true.1 hall t hm)⟩)
    (goesBy_none noGoes (by as_aux_lemma => rfl))
end Go.Proofs.YtmcknijenobdaaaGreatDoor.scriptTicks
