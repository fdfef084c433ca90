/- TopAsks: a host's question, asked again, is answered at once till its time is over. -/
import Derived.Test.YtpegimipbigmbaaGreatDoorRows
import Derived.Test.YtpegimipbigmbaaGreatDoorCards
import Derived.Test.YtpegimipbigmbaaGreatDoorTieA
import Derived.Test.YtpegimipbigmbaaGreatDoorFactsYtpeZ
import Derived.Test.YtpegimipbigmbaaGreatDoorFactsYtpeL
import Derived.Test.YtpegimipbigmbaaGreatDoorFactsYtpeG
import Derived.Test.YtpegimipbigmbaaGreatDoorTopAsksC
import Derived.Test.YtpegimipbigmbaaGreatDoorTaW
import Derived.Test.YtpegimipbigmbaaGreatDoorM6
import Derived.Test.YtpegimipbigmbaaGreatDoorM7
import Derived.WalkKit
import Derived.ProofKit
import Derived.Lay
import Derived.LaidOnce
import Derived.SevenTiedAt
set_option maxRecDepth 100000
namespace Go.Proofs.YtpegimipbigmbaaGreatDoor.topAsks
open Go Go.ChangeShapes Go.WideShapes Go.ChangeAt Go.RowKit Go.Lib Go.Am Go.Proofs.YtpegimipbigmbaaGreatDoor.Facts

theorem plain : ∀ w, laidMetH Tryz.prog Rows.topAsksRow.laid w = laidMet Tryz.prog Rows.topAsksRow.laid w := fun w => MakeChecks.laidMetH_plain _ _ _ (by as_aux_lemma => kernel_rfl)
theorem laidAll_met (os : Os) (args : Array Value) : laidMetH Tryz.prog Rows.topAsksRow.laid ((World.laidAll Tryz.prog os LL).forCall (fun _ _ => 0) ⟨#[], args, []⟩).memory := by
  rw [plain]
  exact met os args

set_option maxHeartbeats 8000000 in
theorem lifted (os : Os) (started : os.Started) (H : Type) (enc : TypeId × Value → H) :
    ReturnsInHanded {} Tryz.checked os 3 .any (fun w args => (Rows.topAsksSpec.pre enc Tryz.prog Tryz.f3 [] false w args ∧ laidMetH Tryz.prog Rows.topAsksRow.laid w) ∧ sizedMet enc Tryz.prog Tryz.f3 (OpenSpec.ofChange Rows.topAsksSpec) false w args)
      (Rows.topAsksSpec.post enc Tryz.prog Tryz.f3 false true false false) := by
  refine handed_and_shaped (C := Tryz.checked) (X := (fun w _ => laidMetH Tryz.prog Rows.topAsksRow.laid w)) (fun _ _ _ hh h => h.of_heap hh) own started (by as_aux_lemma => kernel_rfl) Tryz.func3
    (ChangeSpec.witness_shaped (enc := enc) (C := Tryz.checked) (os := os) (X := (fun w _ => laidMetH Tryz.prog Rows.topAsksRow.laid w)) false (World.laidAll Tryz.prog os LL) #[.int .i64 0, .int .i64 0, .int .i64 0, .int .u32 0, .int .i64 0] 8 (World.laidAll_os _ _ _)
      (shaped os _) (by rw [laid_eq]; unfold World.holding World.settled begin; rw [wt]; as_aux_lemma => kernel_rfl) (by rw [laid_eq]; unfold World.holding World.settled begin; rw [wt]; as_aux_lemma => kernel_rfl) (by rw [laid_eq]; unfold World.holding World.settled begin; rw [wt]; as_aux_lemma => kernel_rfl) (laidAll_met os _)) ?_
  intro W base args ds gs before hS hval0 hW hL0
  have hL : laidMet Tryz.prog Rows.topAsksRow.laid W := by rw [← plain]; exact hL0
  have hp : Tryz.f3.params = #[3, 3, 3, 22, 3] := by kernel_rfl
  have hval : ∀ (j : Nat) t v, Tryz.f3.params[j]? = some t → args[j]? = some v → Value.okWide Tryz.prog W .any base t v := hval0
  have hW' := hW
  obtain ⟨p, q, hA0, hV, rfl, hfz, hnd⟩ := hW
  have hA : DataW.TrodAll enc Tryz.prog W 0 (fun _ => true) true Tryz.f3.params.toList args.toList ds p := hA0
  rw [hp] at hA hval
  obtain ⟨v0, vs0, d0, ds0, p0, q0, hargs, rfl, rfl, h0, r0⟩ := trodAll_cons hA
  obtain ⟨v1, vs1, d1, ds1, p1, q1, rfl, rfl, rfl, h1, r1⟩ := trodAll_cons r0
  obtain ⟨v2, vs2, d2, ds2, p2, q2, rfl, rfl, rfl, h2, r2⟩ := trodAll_cons r1
  obtain ⟨v3, vs3, d3, ds3, p3, q3, rfl, rfl, rfl, h3, r3⟩ := trodAll_cons r2
  obtain ⟨v4, vs4, d4, ds4, p4, q4, rfl, rfl, rfl, h4, r4⟩ := trodAll_cons r3
  obtain ⟨rfl, rfl, rfl⟩ := trodAll_nil r4
  obtain rfl : args = #[v0, v1, v2, v3, v4] := by cases args; simp_all
  obtain ⟨a0, rfl, rfl, rfl, w0⟩ := open_int Tryz.underlying3 (hval 0 3 v0 rfl rfl) h0
  obtain ⟨a1, rfl, rfl, rfl, w1⟩ := open_int Tryz.underlying3 (hval 1 3 v1 rfl rfl) h1
  obtain ⟨a2, rfl, rfl, rfl, w2⟩ := open_int Tryz.underlying3 (hval 2 3 v2 rfl rfl) h2
  obtain ⟨a3, rfl, rfl, rfl, w3⟩ := open_int Tryz.underlying22 (hval 3 22 v3 rfl rfl) h3
  obtain ⟨a4, rfl, rfl, rfl, w4⟩ := open_int Tryz.underlying3 (hval 4 3 v4 rfl rfl) h4
  have main : Ok Tryz.prog 100 3 [.i .i64 a0, .i .i64 a1, .i .i64 a2, .i .u32 a3, .i .i64 a4] ⟨16, .l⟩ (fun v _ => v = .b true) := by
    have b1 := wf_i64' w1
    exact law_ok (Nat.le_refl 16) b1.1 b1.2 fun _ => rfl
  refine (calls_ok0 main rfl).mono fun e W' ⟨he, hg⟩ => ?_
  subst he
  exact ⟨_, rfl, post_of_below kids (slices_ok sizes) (by rw [hp]; decide +kernel) hW' rfl rfl (by as_aux_lemma => kernel_rfl) Tryz.underlying4 hg⟩

set_option maxHeartbeats 8000000 in
theorem joined : joinedFacts Tryz.pinned.checked.prog 3 Tryz.f3 Rows.topAsksSpec Rows.topAsksRow = true := by
  unfold joinedFacts
  exact (and2 (and2 (and2 (and2 (and2 (and2 (and2 (and2 (and2 (and2 (and2 (and2 (and2 (and2 (and2 (and2 (and2 (and2 (and2 (and2 (and2 (and2 (and2 (and2 (and2 (and2 (and2 (and2 (and2 (and2 (and2 (by as_aux_lemma => kernel_rfl) laid) rowed) (by as_aux_lemma => kernel_rfl)) (by as_aux_lemma => kernel_rfl)) (by as_aux_lemma => kernel_rfl)) stops) (by as_aux_lemma => kernel_rfl)) knobs) inPlaceE) unfolE2) recuE) namedE) (by as_aux_lemma => kernel_rfl)) (by as_aux_lemma => kernel_rfl)) (by as_aux_lemma => kernel_rfl)) (by as_aux_lemma => kernel_rfl)) (by as_aux_lemma => kernel_rfl)) (by as_aux_lemma => kernel_rfl)) (by as_aux_lemma => kernel_rfl)) (by as_aux_lemma => kernel_rfl)) (by as_aux_lemma => kernel_rfl)) plainK) (by as_aux_lemma => kernel_rfl)) heard) enter) liftsE) makeE) (by as_aux_lemma => kernel_rfl)) (by as_aux_lemma => kernel_rfl)) (by as_aux_lemma => kernel_rfl)) (by as_aux_lemma => kernel_rfl))
set_option maxHeartbeats 8000000 in
theorem held : Rows.TopAsksSaid :=
  OpenClaim.holds_of_wide 3 Tryz.f3 (by as_aux_lemma => rfl) (by as_aux_lemma => rfl) (by as_aux_lemma => rfl) (by as_aux_lemma => rfl) (by as_aux_lemma => rfl) (by as_aux_lemma => rfl) (by as_aux_lemma => rfl) ⟨(by as_aux_lemma => rfl), (by as_aux_lemma => rfl), (by as_aux_lemma => rfl), (by as_aux_lemma => rfl), (by as_aux_lemma => rfl)⟩ (by as_aux_lemma => rfl) (by as_aux_lemma => rfl) (by as_aux_lemma => rfl) (by as_aux_lemma => rfl) (by as_aux_lemma => rfl) fnm Tryz.func3 joined
    (of_decide_eq_true (by as_aux_lemma => kernel_rfl)) (by unfold Func.isWrapper; first | (rw [if_pos (by decide +kernel)]; kernel_rfl) | (rw [if_neg (by decide +kernel)]; exact ⟨rfl, rfl⟩))
    (fun os started H enc _ => lifted os started H enc)

set_option maxHeartbeats 8000000 in
theorem proved : Rows.TopAsksCardSaid :=
  Claim7.holds_tied_plain_at .later [] [.pinned, .data, .sentinel, .sentinel, .data, .data, .data] true (true, "e52f67ab4ce21d203d3106c1154ae9732994d41379b406b5475bc09b8935c2e5") true held (fun _ h => by cases h) (by as_aux_lemma => kernel_rfl) (fun _ h => by cases h) topAsks_row_tie (by as_aux_lemma => rfl) ⟨(by as_aux_lemma => rfl), (by as_aux_lemma => rfl)⟩ mainE (by as_aux_lemma => rfl)
    (fun f fn hf hfn => by
      obtain rfl : f = 3 := Option.some.inj ((show Tryz.prog.funcNamed "gatehouse/gatehousetop.TopAsks" = some 3 from fnm).symm.trans hf) |>.symm
      obtain rfl : fn = Tryz.f3 := (Option.some.inj (Tryz.func3.symm.trans hfn)).symm
      exact ⟨looksT, fun j t ht => by
        have hp : Tryz.f3.params = #[3, 3, 3, 22, 3] := by kernel_rfl
        rw [hp] at ht
        have hm : t ∈ ([3, 3, 3, 22, 3] : List TypeId) := by simpa using Array.mem_of_getElem? ht
        have hall : (([3, 3, 3, 22, 3] : List TypeId).all fun u => !Tryz.prog.wantsStandIn u) = true := by kernel_rfl
        exact (show Tryz.prog.wantsStandIn t = false by simpa using List.all_eq_true.1 hall t hm)⟩)
    (goesBy_none noGoes (by as_aux_lemma => rfl))
end Go.Proofs.YtpegimipbigmbaaGreatDoor.topAsks
