/- SoapReads returns true, whatever the text. Condition: strconv.ErrSyntax and the tables of unicode/utf8 hold what the row lists (the card ties them to the text); MaxLen may hold whatever integer. -/
import Derived.Test.YtbkhielalbbopaaGreatDoorRows
import Derived.Test.YtbkhielalbbopaaGreatDoorCards
import Derived.Test.YtbkhielalbbopaaGreatDoorTie
import Derived.Test.YtbkhielalbbopaaGreatDoorFactsYtbkZ
import Derived.Test.YtbkhielalbbopaaGreatDoorSoapAr
import Derived.Test.YtbkhielalbbopaaGreatDoorRd3
import Derived.Test.YtbkhielalbbopaaGreatDoorM5
import Derived.WalkKit
import Derived.ProofKit
import Derived.Lay
import Derived.LaidOnce
import Derived.SevenTiedAt
import Derived.ChangeMaps5
set_option maxRecDepth 100000
namespace Go.Proofs.YtbkhielalbbopaaGreatDoor.soapReads
open Go Go.ChangeShapes Go.WideShapes Go.ChangeAt Go.RowKit Go.Lib Go.Am Go.Proofs.YtbkhielalbbopaaGreatDoor.Facts

theorem maxLen_cell {W : World} (hS : W.ShapedOpen Tryz.prog) : ∃ m, W.cell? ⟨2, 0, none⟩ = some (.int .i64 m) :=
  Go.Proofs.cell_of_shapedOpen_int (zero := #[.int .i64 0]) hS (of_decide_eq_true (by kernel_rfl)) (by kernel_rfl) rfl (by kernel_rfl) (by kernel_rfl) Tryz.underlying3

def ren8 : Go.Shelf.Ren := ⟨fun f => f, fun t => if t = 119 then 148 else if t = 138 then 150 else if t = 139 then 151 else t, fun g => if g = 3 then 0 else if g = 4 then 1 else g⟩
theorem types8 : U8Types Tryz.prog ren8 := ⟨Tryz.underlying5, Tryz.underlying148, Tryz.underlying150, Tryz.underlying151⟩
theorem extra8 : U8Extra Tryz.prog ren8 := ⟨by kernel_rfl, by kernel_rfl, by kernel_rfl, by kernel_rfl, by kernel_rfl, by kernel_rfl, by kernel_rfl⟩
theorem accept8 : (Rows.laid_unicode_utf8_acceptRanges : DataW Unit) = Go.Lib.acceptData := by kernel_rfl
theorem tabs8 {W : World} (hL : laidMet Tryz.prog Rows.soapReadsRow.laid W) : Go.Lib.Utf8Tabs 0 1 W := by
  have h3 : Go.Lib.VarReads Tryz.prog W "unicode/utf8.first" Go.Lib.firstData := by
    have := laidMet.reads hL (n := "unicode/utf8.first") (d := Rows.laid_unicode_utf8_first) (by simp [Rows.soapReadsRow])
    rw [show Rows.laid_unicode_utf8_first = Go.Lib.firstData from Pinned.utf8First_eq] at this
    exact this
  have h4 : Go.Lib.VarReads Tryz.prog W "unicode/utf8.acceptRanges" Go.Lib.acceptData := by
    have := laidMet.reads hL (n := "unicode/utf8.acceptRanges") (d := Rows.laid_unicode_utf8_acceptRanges) (by simp [Rows.soapReadsRow])
    rw [accept8] at this
    exact this
  exact utf8Tabs_of_readsT types8 extra8 h3 h4

theorem star : "*" ++ "errors.errorString" = "*errors.errorString" := by decide
theorem rowErr (u : TypeId) (h : Tryz.prog.typeName? 3 u = some "*errors.errorString") : u = 217 :=
  typeName_ptr_named (nm := "errors.errorString") (by rw [star]; kernel_rfl) (by kernel_rfl) (by decide) u (by rw [star]; exact h)

theorem errSyntax_cell {W : World} (hL : laidMet Tryz.prog Rows.soapReadsRow.laid W) : ∃ a : Addr, a.spot = none ∧ W.cell? ⟨4, 0, none⟩ = some (.iface 217 (.pointer (some a))) := by
  have hL1 : laidMet Tryz.prog (("strconv.ErrSyntax", .iface "*errors.errorString" (.ptr (.agg [.lit (.string [105, 110, 118, 97, 108, 105, 100, 32, 115, 121, 110, 116, 97, 120])]))) :: [("unicode/utf8.first", Rows.laid_unicode_utf8_first)]) W := hL.tail.tail.tail.tail.tail
  have hg : Tryz.prog.globalNamed "strconv.ErrSyntax" = some 4 := by kernel_rfl
  obtain ⟨a, s, hv, hc, -, -⟩ := laid_sentinel hL1 hg (by kernel_rfl) Tryz.underlying142 rowErr Tryz.underlying217 Tryz.underlying219 rfl rfl Tryz.underlying9 (by kernel_rfl) (by kernel_rfl)
  refine ⟨a, ?_, by have h0 := World.var?_cell hg hv 0; simpa using h0⟩
  unfold World.cell? at hc
  split at hc
  · cases hs : a.spot with
    | none => rfl
    | some z => rw [hs] at hc; simp at hc
  · cases hc

theorem walk (s0 : ByteArray) (W : World) (hS : W.ShapedOpen Tryz.prog) (hL : laidMet Tryz.prog Rows.soapReadsRow.laid W) :
    Calls Tryz.prog 3 #[.string s0] W fun e w' => e = .returned (.bool true) ∧ Below W.heap.size W w' := by
  obtain ⟨m, hm⟩ := maxLen_cell hS
  obtain ⟨a, ha, he⟩ := errSyntax_cell hL
  have R := hrel_five Tryz.prog W ha hm he (laid_u8 (tabs8 hL))
  have L : Wb.Low ⟨18, mem5 m 217⟩ := ⟨⟨m, 0, false, mem5_2 m 217⟩, ⟨217, 16, 0, false, mem5_4 m 217⟩, by show 16 ≤ 18; decide⟩
  have TT : Wb.TB ⟨18, mem5 m 217⟩ := ⟨⟨0, false, mem5_0 m 217⟩, ⟨0, false, mem5_1 m 217⟩, by show 16 ≤ 18; decide⟩
  have main : Ok Tryz.prog 2601 3 [.s s0.data.toList] ⟨18, mem5 m 217⟩ (fun v _ => v = .b true) :=
    Wb.reads_law (n := 2600) (by decide) L TT (fun k => ok_true' Wb.awR rfl fun g' hb f => k g' f) fun _ => rfl
  exact calls_ok main R (rens_mk (by obtain ⟨⟨l⟩⟩ := s0; rfl) rfl) fun r hr => by
    unfold j5
    have : 18 ≤ r := hr
    rw [if_neg (by omega), if_neg (by omega)]

theorem plain : ∀ w, laidMetH Tryz.prog Rows.soapReadsRow.laid w = laidMet Tryz.prog Rows.soapReadsRow.laid w := fun w => MakeChecks.laidMetH_plain _ _ _ (by as_aux_lemma => kernel_rfl)
theorem laidAll_met (os : Os) (args : Array Value) : laidMetH Tryz.prog Rows.soapReadsRow.laid ((World.laidAll Tryz.prog os Rows.soapReadsRow.laid).forCall (fun _ _ => 0) ⟨#[], args, []⟩).memory := by
  rw [plain]
  exact laidMet_laidAll _ (by as_aux_lemma => kernel_rfl) (by as_aux_lemma => kernel_rfl)

theorem lifted (os : Os) (started : os.Started) (H : Type) (enc : TypeId × Value → H) :
    ReturnsInHanded {} Tryz.checked os 3 .any (fun w args => (Rows.soapReadsSpec.pre enc Tryz.prog Tryz.f3 [] false w args ∧ laidMetH Tryz.prog Rows.soapReadsRow.laid w) ∧ sizedMet enc Tryz.prog Tryz.f3 (OpenSpec.ofChange Rows.soapReadsSpec) false w args)
      (Rows.soapReadsSpec.post enc Tryz.prog Tryz.f3 false true false false) := by
  refine handed_and_shaped (C := Tryz.checked) (X := fun w _ => laidMetH Tryz.prog Rows.soapReadsRow.laid w) (fun _ _ _ hh h => h.of_heap hh) own started (by as_aux_lemma => kernel_rfl) Tryz.func3
    (ChangeSpec.witness_shaped (enc := enc) (C := Tryz.checked) (os := os) (X := fun w _ => laidMetH Tryz.prog Rows.soapReadsRow.laid w) false (World.laidAll Tryz.prog os Rows.soapReadsRow.laid) #[.string ⟨#[]⟩] 8 (World.laidAll_os _ _ _)
      (World.shaped_of_ZipB (by as_aux_lemma => kernel_rfl) (by as_aux_lemma => kernel_rfl)) (by as_aux_lemma => kernel_rfl) (by as_aux_lemma => kernel_rfl) (by as_aux_lemma => kernel_rfl) (laidAll_met os _)) ?_
  intro W base args ds gs before hS hval0 hW hL0
  have hL : laidMet Tryz.prog Rows.soapReadsRow.laid W := by rw [← plain]; exact hL0
  have hp : Tryz.f3.params = #[9] := by kernel_rfl
  have hval : ∀ (j : Nat) t v, Tryz.f3.params[j]? = some t → args[j]? = some v → Value.okWide Tryz.prog W .any base t v := hval0
  have hW' := hW
  obtain ⟨p, q, hA0, hV, rfl, hfz, hnd⟩ := hW
  have hA : DataW.TrodAll enc Tryz.prog W 0 (fun _ => true) true Tryz.f3.params.toList args.toList ds p := hA0
  rw [hp] at hA hval
  obtain ⟨v0, vs0, d0, ds0, p0, q0, hargs, rfl, rfl, h0, r0⟩ := trodAll_cons hA
  obtain ⟨rfl, rfl, rfl⟩ := trodAll_nil r0
  obtain rfl : args = #[v0] := by cases args; simp_all
  obtain ⟨s0, rfl, rfl, rfl, w0⟩ := Go.ChangeMaps.open_string Tryz.underlying9 (hval 0 9 v0 rfl rfl) h0
  refine (walk s0 W hS hL).mono fun e W' ⟨he, hg⟩ => ?_
  subst he
  exact ⟨_, rfl, post_of_below kids (slices_ok sizes) (by rw [hp]; decide +kernel) hW' rfl rfl (by as_aux_lemma => kernel_rfl) Tryz.underlying4 hg⟩

set_option maxHeartbeats 8000000 in
theorem held : Rows.SoapReadsSaid :=
  OpenClaim.holds_of_wide 3 Tryz.f3 rfl rfl rfl rfl rfl rfl rfl ⟨rfl, rfl, rfl, rfl, rfl⟩ rfl rfl rfl rfl rfl (by as_aux_lemma => kernel_rfl) Tryz.func3
    (by unfold joinedFacts; exact and2 (and2 (and2 (and2 (and2 (and2 (and2 (and2 (and2 (and2 (and2 (and2 (and2 (and2 (and2 (and2 (and2 (and2 (and2 (and2 (and2 (and2 (and2 (and2 (and2 (and2 (and2 (and2 (and2 (and2 (and2 (by as_aux_lemma => kernel_rfl) laid) rowed) (by as_aux_lemma => kernel_rfl)) (by as_aux_lemma => kernel_rfl)) (by as_aux_lemma => kernel_rfl)) stops) (by as_aux_lemma => kernel_rfl)) knobs) (by as_aux_lemma => kernel_rfl)) (by as_aux_lemma => kernel_rfl)) (by as_aux_lemma => kernel_rfl)) (by as_aux_lemma => kernel_rfl)) (by as_aux_lemma => kernel_rfl)) (by as_aux_lemma => kernel_rfl)) (by as_aux_lemma => kernel_rfl)) (by as_aux_lemma => kernel_rfl)) (by as_aux_lemma => kernel_rfl)) (by as_aux_lemma => kernel_rfl)) (by as_aux_lemma => kernel_rfl)) (by as_aux_lemma => kernel_rfl)) (by as_aux_lemma => kernel_rfl)) (by as_aux_lemma => kernel_rfl)) (by as_aux_lemma => kernel_rfl)) heard) enter) (by as_aux_lemma => kernel_rfl)) (by as_aux_lemma => kernel_rfl)) (by as_aux_lemma => kernel_rfl)) (by as_aux_lemma => kernel_rfl)) (by as_aux_lemma => kernel_rfl)) (by as_aux_lemma => kernel_rfl))
    (of_decide_eq_true (by as_aux_lemma => kernel_rfl)) (by unfold Func.isWrapper; first | (rw [if_pos (by decide +kernel)]; kernel_rfl) | (rw [if_neg (by decide +kernel)]; exact ⟨rfl, rfl⟩))
    (fun os started H enc _ => lifted os started H enc)

set_option maxHeartbeats 8000000 in
theorem proved : Rows.SoapReadsCardSaid :=
  Claim7.holds_tied_plain_at .later [] [.data, .data, .data, .data, .sentinel, .sentinel, .pinned] true (true, "ca332eb359dc1b10a69482e0be103e1c16d056a28564f46303def4fd668800a0") true held (fun _ h => by cases h) (by as_aux_lemma => kernel_rfl) (fun _ h => by cases h) soapReads_row_tie rfl ⟨rfl, rfl⟩ (by as_aux_lemma => kernel_rfl) rfl
    (fun f fn hf hfn => by
      obtain rfl : f = 3 := Option.some.inj ((show Tryz.prog.funcNamed "gatehouse/gatehouselaw26.SoapReads" = some 3 by as_aux_lemma => kernel_rfl).symm.trans hf) |>.symm
      obtain rfl : fn = Tryz.f3 := (Option.some.inj (Tryz.func3.symm.trans hfn)).symm
      exact ⟨(by as_aux_lemma => kernel_rfl), fun j t ht => by
        have hp : Tryz.f3.params = #[9] := by kernel_rfl
        rw [hp] at ht
        have hm : t ∈ ([9] : List TypeId) := by simpa using Array.mem_of_getElem? ht
        have hall : (([9] : List TypeId).all fun u => !Tryz.prog.wantsStandIn u) = true := by kernel_rfl
        exact (show Tryz.prog.wantsStandIn t = false by simpa using List.all_eq_true.1 hall t hm)⟩)
    (by as_aux_lemma => kernel_rfl)
end Go.Proofs.YtbkhielalbbopaaGreatDoor.soapReads
