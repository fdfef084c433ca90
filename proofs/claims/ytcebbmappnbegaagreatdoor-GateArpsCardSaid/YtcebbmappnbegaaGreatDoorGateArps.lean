/- GateArps returns true, whatever its arguments are. Condition: the library tables that its row lists hold what they are laid as (the card ties them to the text). -/
import Derived.Test.YtcebbmappnbegaaGreatDoorRows
import Derived.Test.YtcebbmappnbegaaGreatDoorCards
import Derived.Test.YtcebbmappnbegaaGreatDoorTieO
import Derived.Test.YtcebbmappnbegaaGreatDoorFactsYtceZ
import Derived.Test.YtcebbmappnbegaaGreatDoorFactsYtceL
import Derived.Test.YtcebbmappnbegaaGreatDoorFactsYtceG
import Derived.Test.YtcebbmappnbegaaGreatDoorGateArpsC
import Derived.Test.YtcebbmappnbegaaGreatDoorGateArpsB
import Derived.Test.YtcebbmappnbegaaGreatDoorM7
import Derived.Test.YtcebbmappnbegaaGreatDoorM5
import Derived.WalkKit
import Derived.ProofKit
import Derived.Lay
import Derived.LaidOnce
import Derived.SevenTiedAt
set_option maxRecDepth 100000
namespace Go.Proofs.YtcebbmappnbegaaGreatDoor.gateArps
open Go Go.ChangeShapes Go.WideShapes Go.ChangeAt Go.RowKit Go.Lib Go.Am Go.Proofs.YtcebbmappnbegaaGreatDoor.Facts

theorem wf_i64' {n : Int} (h : (Lit.int .i64 n).wf = true) : -9223372036854775808 ≤ n ∧ n ≤ 9223372036854775807 := by
  simp [Lit.wf, IntKind.min, IntKind.max, IntKind.signed, IntKind.bits] at h; omega
theorem walk (a0 c0 c1 c2 c3 d0 d1 d2 d3 d4 d5 : Int) (w0 : (Lit.int .i64 a0).wf = true) (hc : ∀ z ∈ [c0, c1, c2, c3], 0 ≤ z ∧ z ≤ 255) (hd : ∀ z ∈ [d0, d1, d2, d3, d4, d5], 0 ≤ z ∧ z ≤ 255) (W : World) :
    Calls Tryz.prog 8 #[.int .i64 a0, .agg ⟨[.int .u8 c0, .int .u8 c1, .int .u8 c2, .int .u8 c3]⟩, .agg ⟨[.int .u8 d0, .int .u8 d1, .int .u8 d2, .int .u8 d3, .int .u8 d4, .int .u8 d5]⟩] W fun e w' => e = .returned (.bool true) ∧ Below W.heap.size W w' := by
  have b0 := wf_i64' w0
  have e0 := hc c0 (by simp)
  have e1 := hc c1 (by simp)
  have e2 := hc c2 (by simp)
  have e3 := hc c3 (by simp)
  have f0 := hd d0 (by simp)
  have f1 := hd d1 (by simp)
  have f2 := hd d2 (by simp)
  have f3 := hd d3 (by simp)
  have f4 := hd d4 (by simp)
  have f5 := hd d5 (by simp)
  have key : ∃ h', sem (mkX Tryz.prog) 100000 100 8 [.i .i64 a0, .a [.i .u8 c0, .i .u8 c1, .i .u8 c2, .i .u8 c3], .a [.i .u8 d0, .i .u8 d1, .i .u8 d2, .i .u8 d3, .i .u8 d4, .i .u8 d5]] ⟨16, lay []⟩ = some (.b true, h') := by
    by_cases h : a0 < 0 ∨ 1 < a0
    · exact oran a0 c0 c1 c2 c3 d0 d1 d2 d3 d4 d5 b0.1 b0.2 e0.1 e0.2 e1.1 e1.2 e2.1 e2.2 e3.1 e3.2 f0.1 f0.2 f1.1 f1.2 f2.1 f2.2 f3.1 f3.2 f4.1 f4.2 f5.1 f5.2 h
    have h : a0 = 0 ∨ a0 = 1 := by omega
    rcases h with rfl | rfl
    · exact k0ran c0 c1 c2 c3 d0 d1 d2 d3 d4 d5 e0.1 e0.2 e1.1 e1.2 e2.1 e2.2 e3.1 e3.2 f0.1 f0.2 f1.1 f1.2 f2.1 f2.2 f3.1 f3.2 f4.1 f4.2 f5.1 f5.2
    · exact k1ran c0 c1 c2 c3 d0 d1 d2 d3 d4 d5 e0.1 e0.2 e1.1 e1.2 e2.1 e2.2 e3.1 e3.2 f0.1 f0.2 f1.1 f1.2 f2.1 f2.2 f3.1 f3.2 f4.1 f4.2 f5.1 f5.2
  obtain ⟨h', e⟩ := key
  exact calls_laid (Nat.le_refl _) e W (.nil W) rfl

theorem plain : ∀ w, laidMetH Tryz.prog Rows.gateArpsRow.laid w = laidMet Tryz.prog Rows.gateArpsRow.laid w := fun w => MakeChecks.laidMetH_plain _ _ _ (by as_aux_lemma => kernel_rfl)
theorem laidAll_met (os : Os) (args : Array Value) : laidMetH Tryz.prog Rows.gateArpsRow.laid ((World.laidAll Tryz.prog os LL).forCall (fun _ _ => 0) ⟨#[], args, []⟩).memory := by
  rw [plain]
  exact met os args

set_option maxHeartbeats 8000000 in
theorem lifted (os : Os) (started : os.Started) (H : Type) (enc : TypeId × Value → H) :
    ReturnsInHanded {} Tryz.checked os 8 .any (fun w args => (Rows.gateArpsSpec.pre enc Tryz.prog Tryz.f8 [] false w args ∧ laidMetH Tryz.prog Rows.gateArpsRow.laid w) ∧ sizedMet enc Tryz.prog Tryz.f8 (OpenSpec.ofChange Rows.gateArpsSpec) false w args)
      (Rows.gateArpsSpec.post enc Tryz.prog Tryz.f8 false true false false) := by
  refine handed_and_shaped (C := Tryz.checked) (X := (fun w _ => laidMetH Tryz.prog Rows.gateArpsRow.laid w)) (fun _ _ _ hh h => h.of_heap hh) own started (by as_aux_lemma => kernel_rfl) Tryz.func8
    (ChangeSpec.witness_shaped (enc := enc) (C := Tryz.checked) (os := os) (X := (fun w _ => laidMetH Tryz.prog Rows.gateArpsRow.laid w)) false (World.laidAll Tryz.prog os LL) #[.int .i64 0, .agg #[.int .u8 0, .int .u8 0, .int .u8 0, .int .u8 0], .agg #[.int .u8 0, .int .u8 0, .int .u8 0, .int .u8 0, .int .u8 0, .int .u8 0]] 8 (World.laidAll_os _ _ _)
      (shaped os _) (by rw [laid_eq]; unfold World.holding World.settled begin; rw [wt]; as_aux_lemma => kernel_rfl) (by rw [laid_eq]; unfold World.holding World.settled begin; rw [wt]; as_aux_lemma => kernel_rfl) (by rw [laid_eq]; unfold World.holding World.settled begin; rw [wt]; as_aux_lemma => kernel_rfl) (laidAll_met os _)) ?_
  intro W base args ds gs before hS hval0 hW hL0
  have hL : laidMet Tryz.prog Rows.gateArpsRow.laid W := by rw [← plain]; exact hL0
  have hp : Tryz.f8.params = #[3, 27, 31] := by kernel_rfl
  have hval : ∀ (j : Nat) t v, Tryz.f8.params[j]? = some t → args[j]? = some v → Value.okWide Tryz.prog W .any base t v := hval0
  have hW' := hW
  obtain ⟨p, q, hA0, hV, rfl, hfz, hnd⟩ := hW
  have hA : DataW.TrodAll enc Tryz.prog W 0 (fun _ => true) true Tryz.f8.params.toList args.toList ds p := hA0
  rw [hp] at hA hval
  obtain ⟨v0, vs0, d0, ds0, p0, q0, hargs, rfl, rfl, h0, r0⟩ := trodAll_cons hA
  obtain ⟨v1, vs1, d1, ds1, p1, q1, rfl, rfl, rfl, h1, r1⟩ := trodAll_cons r0
  obtain ⟨v2, vs2, d2, ds2, p2, q2, rfl, rfl, rfl, h2, r2⟩ := trodAll_cons r1
  obtain ⟨rfl, rfl, rfl⟩ := trodAll_nil r2
  obtain rfl : args = #[v0, v1, v2] := by cases args; simp_all
  obtain ⟨a0, rfl, rfl, rfl, w0⟩ := open_int Tryz.underlying3 (hval 0 3 v0 rfl rfl) h0
  obtain ⟨zs1, hz1, rfl, hb1⟩ := open_bytes Tryz.underlying27 Tryz.underlying5 (by kernel_rfl) (by kernel_rfl) (hval 1 27 v1 rfl rfl) h1
  obtain ⟨c1_0, c1_1, c1_2, c1_3, rfl⟩ := len4 hz1
  obtain ⟨zs2, hz2, rfl, hb2⟩ := open_bytes Tryz.underlying31 Tryz.underlying5 (by kernel_rfl) (by kernel_rfl) (hval 2 31 v2 rfl rfl) h2
  obtain ⟨c2_0, c2_1, c2_2, c2_3, c2_4, c2_5, rfl⟩ := len6 hz2
  refine (walk a0 c1_0 c1_1 c1_2 c1_3 c2_0 c2_1 c2_2 c2_3 c2_4 c2_5 w0 hb1 hb2 W).mono fun e W' ⟨he, hg⟩ => ?_
  subst he
  exact ⟨_, rfl, post_of_below kids (slices_ok sizes) (by rw [hp]; decide +kernel) hW' rfl rfl (by as_aux_lemma => kernel_rfl) Tryz.underlying4 hg⟩

set_option maxHeartbeats 8000000 in
theorem joined : joinedFacts Tryz.pinned.checked.prog 8 Tryz.f8 Rows.gateArpsSpec Rows.gateArpsRow = true := by
  unfold joinedFacts
  exact (and2 (and2 (and2 (and2 (and2 (and2 (and2 (and2 (and2 (and2 (and2 (and2 (and2 (and2 (and2 (and2 (and2 (and2 (and2 (and2 (and2 (and2 (and2 (and2 (and2 (and2 (and2 (and2 (and2 (and2 (and2 (by as_aux_lemma => kernel_rfl) laid) rowed) (by as_aux_lemma => kernel_rfl)) (by as_aux_lemma => kernel_rfl)) (by as_aux_lemma => kernel_rfl)) stops) (by as_aux_lemma => kernel_rfl)) knobs) inPlaceE) unfolE2) recuE) namedE) (by as_aux_lemma => kernel_rfl)) (by as_aux_lemma => kernel_rfl)) (by as_aux_lemma => kernel_rfl)) (by as_aux_lemma => kernel_rfl)) (by as_aux_lemma => kernel_rfl)) (by as_aux_lemma => kernel_rfl)) (by as_aux_lemma => kernel_rfl)) (by as_aux_lemma => kernel_rfl)) (by as_aux_lemma => kernel_rfl)) plainK) (by as_aux_lemma => kernel_rfl)) heard) enter) liftsE) makeE) (by as_aux_lemma => kernel_rfl)) (by as_aux_lemma => kernel_rfl)) (by as_aux_lemma => kernel_rfl)) (by as_aux_lemma => kernel_rfl))
set_option maxHeartbeats 8000000 in
theorem held : Rows.GateArpsSaid :=
  OpenClaim.holds_of_wide 8 Tryz.f8 (by as_aux_lemma => rfl) (by as_aux_lemma => rfl) (by as_aux_lemma => rfl) (by as_aux_lemma => rfl) (by as_aux_lemma => rfl) (by as_aux_lemma => rfl) (by as_aux_lemma => rfl) ⟨(by as_aux_lemma => rfl), (by as_aux_lemma => rfl), (by as_aux_lemma => rfl), (by as_aux_lemma => rfl), (by as_aux_lemma => rfl)⟩ (by as_aux_lemma => rfl) (by as_aux_lemma => rfl) (by as_aux_lemma => rfl) (by as_aux_lemma => rfl) (by as_aux_lemma => rfl) fnm Tryz.func8 joined
    (of_decide_eq_true (by as_aux_lemma => kernel_rfl)) (by unfold Func.isWrapper; first | (rw [if_pos (by decide +kernel)]; kernel_rfl) | (rw [if_neg (by decide +kernel)]; exact ⟨rfl, rfl⟩))
    (fun os started H enc _ => lifted os started H enc)

set_option maxHeartbeats 8000000 in
theorem proved : Rows.GateArpsCardSaid :=
  Claim7.holds_tied_plain_at .later [] [.pinned, .data, .sentinel, .sentinel, .data, .data, .data] true (true, "663ca5b6adc3035d37e2dcfe4094552606a8f77678cbe501a19f29d461447a63") true held (fun _ h => by cases h) (by as_aux_lemma => kernel_rfl) (fun _ h => by cases h) gateArps_row_tie (by as_aux_lemma => rfl) ⟨(by as_aux_lemma => rfl), (by as_aux_lemma => rfl)⟩ mainE (by as_aux_lemma => rfl)
    (fun f fn hf hfn => by
      obtain rfl : f = 8 := Option.some.inj ((show Tryz.prog.funcNamed "gatehouse/gatehouselaw27.GateArps" = some 8 from fnm).symm.trans hf) |>.symm
      obtain rfl : fn = Tryz.f8 := (Option.some.inj (Tryz.func8.symm.trans hfn)).symm
      exact ⟨looksT, fun j t ht => by
        have hp : Tryz.f8.params = #[3, 27, 31] := by kernel_rfl
        rw [hp] at ht
        have hm : t ∈ ([3, 27, 31] : List TypeId) := by simpa using Array.mem_of_getElem? ht
        have hall : (([3, 27, 31] : List TypeId).all fun u => !Tryz.prog.wantsStandIn u) = true := by kernel_rfl
        exact (show Tryz.prog.wantsStandIn t = false by simpa using List.all_eq_true.1 hall t hm)⟩)
    (goesBy_none noGoes (by as_aux_lemma => rfl))
end Go.Proofs.YtcebbmappnbegaaGreatDoor.gateArps
