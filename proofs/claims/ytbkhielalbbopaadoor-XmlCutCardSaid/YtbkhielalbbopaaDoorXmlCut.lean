/- XmlCut returns true, whatever the text and the number. Condition: strconv.ErrSyntax holds what its row lists (the card ties it to the text); MaxLen may hold whatever integer. -/
import Derived.Test.YtbkhielalbbopaaDoorRows
import Derived.Test.YtbkhielalbbopaaDoorCards
import Derived.Test.YtbkhielalbbopaaDoorTie
import Derived.Test.YtbkhielalbbopaaDoorFactsYtbkD
import Derived.Test.YtbkhielalbbopaaDoorXr
import Derived.Test.YtbkhielalbbopaaDoorXl4
import Derived.Test.YtbkhielalbbopaaDoorM4
import Derived.WalkKit
import Derived.ProofKit
import Derived.Lay
import Derived.LaidOnce
import Derived.SevenTiedAt
import Derived.ChangeMaps5
set_option maxRecDepth 100000
namespace Go.Proofs.YtbkhielalbbopaaDoor.xmlCut
open Go Go.ChangeShapes Go.WideShapes Go.ChangeAt Go.RowKit Go.Lib Go.Am Go.Proofs.YtbkhielalbbopaaDoor.Facts

theorem maxLen_cell {W : World} (hS : W.ShapedOpen Tryd.prog) : ∃ m, W.cell? ⟨2, 0, none⟩ = some (.int .i64 m) :=
  Go.Proofs.cell_of_shapedOpen_int (zero := #[.int .i64 0]) hS (of_decide_eq_true (by kernel_rfl)) (by kernel_rfl) rfl (by kernel_rfl) (by kernel_rfl) Tryd.underlying3

theorem star : "*" ++ "errors.errorString" = "*errors.errorString" := by decide
theorem row102 (u : TypeId) (h : Tryd.prog.typeName? 3 u = some "*errors.errorString") : u = 102 :=
  typeName_ptr_named (nm := "errors.errorString") (by rw [star]; kernel_rfl) (by kernel_rfl) (by decide) u (by rw [star]; exact h)

theorem errSyntax_cell {W : World} (hL : laidMet Tryd.prog Rows.xmlCutRow.laid W) : ∃ a : Addr, a.spot = none ∧ W.cell? ⟨3, 0, none⟩ = some (.iface 102 (.pointer (some a))) := by
  have hL1 : laidMet Tryd.prog (("strconv.ErrSyntax", .iface "*errors.errorString" (.ptr (.agg [.lit (.string [105, 110, 118, 97, 108, 105, 100, 32, 115, 121, 110, 116, 97, 120])]))) :: [("unicode/utf8.first", Rows.laid_unicode_utf8_first)]) W := hL.tail.tail.tail.tail.tail
  have hg : Tryd.prog.globalNamed "strconv.ErrSyntax" = some 3 := by kernel_rfl
  obtain ⟨a, s, hv, hc, -, -⟩ := laid_sentinel hL1 hg (by kernel_rfl) Tryd.underlying51 row102 Tryd.underlying102 Tryd.underlying104 rfl rfl Tryd.underlying9 (by kernel_rfl) (by kernel_rfl)
  refine ⟨a, ?_, by have h0 := World.var?_cell hg hv 0; simpa using h0⟩
  unfold World.cell? at hc
  split at hc
  · cases hs : a.spot with
    | none => rfl
    | some z => rw [hs] at hc; simp at hc
  · cases hc

theorem aw_run : (sem (mkX Tryd.prog) 100000 99 9 [] ⟨17, .l⟩).map (·.1) = some (.b true) := by kernel_rfl

theorem walk (s0 : ByteArray) (a1 : Int) (W : World) (hS : W.ShapedOpen Tryd.prog) (hL : laidMet Tryd.prog Rows.xmlCutRow.laid W) : Calls Tryd.prog 8 #[.string s0, .int .i64 a1] W fun e w' => e = .returned (.bool true) ∧ Below W.heap.size W w' := by
  obtain ⟨m, hm⟩ := maxLen_cell hS
  obtain ⟨a, ha, he⟩ := errSyntax_cell hL
  refine calls_two (n := 100) (args := [.s s0.data.toList, .i .i64 a1]) W (by decide) (by decide) ha hm he ?_ (by obtain ⟨⟨l0⟩⟩ := s0; rfl)
  have L : Wb.Low ⟨17, mem2 2 .i64 m 3 102⟩ := by
    refine ⟨⟨m, 0, false, ?_⟩, ⟨102, 16, 0, false, ?_⟩, by show 16 ≤ 17; decide⟩
    · show ((T.l.put 3 _).put 2 _).get 2 = _
      rw [T.get_put, if_pos rfl]
    · show ((T.l.put 3 _).put 2 _).get 3 = _
      rw [T.get_put, if_neg (by decide), T.get_put, if_pos rfl]
  exact Wb.cut_law (n := 99) (by decide) L (fun k => ok_true' aw_run rfl fun g' _ f => k g' f) fun _ _ => rfl

theorem plain : ∀ w, laidMetH Tryd.prog Rows.xmlCutRow.laid w = laidMet Tryd.prog Rows.xmlCutRow.laid w := fun w => MakeChecks.laidMetH_plain _ _ _ (by as_aux_lemma => kernel_rfl)
theorem laidAll_met (os : Os) (args : Array Value) : laidMetH Tryd.prog Rows.xmlCutRow.laid ((World.laidAll Tryd.prog os Rows.xmlCutRow.laid).forCall (fun _ _ => 0) ⟨#[], args, []⟩).memory := by
  rw [plain]
  exact laidMet_laidAll _ (by as_aux_lemma => kernel_rfl) (by as_aux_lemma => kernel_rfl)

theorem lifted (os : Os) (started : os.Started) (H : Type) (enc : TypeId × Value → H) :
    ReturnsInHanded {} Tryd.checked os 8 .any (fun w args => (Rows.xmlCutSpec.pre enc Tryd.prog Tryd.f8 [] false w args ∧ laidMetH Tryd.prog Rows.xmlCutRow.laid w) ∧ sizedMet enc Tryd.prog Tryd.f8 (OpenSpec.ofChange Rows.xmlCutSpec) false w args)
      (Rows.xmlCutSpec.post enc Tryd.prog Tryd.f8 false true false false) := by
  refine handed_and_shaped (C := Tryd.checked) (X := fun w _ => laidMetH Tryd.prog Rows.xmlCutRow.laid w) (fun _ _ _ hh h => h.of_heap hh) own started (by as_aux_lemma => kernel_rfl) Tryd.func8
    (ChangeSpec.witness_shaped (enc := enc) (C := Tryd.checked) (os := os) (X := fun w _ => laidMetH Tryd.prog Rows.xmlCutRow.laid w) false (World.laidAll Tryd.prog os Rows.xmlCutRow.laid) #[.string ⟨#[]⟩, .int .i64 0] 8 (World.laidAll_os _ _ _)
      (World.shaped_of_ZipB (by as_aux_lemma => kernel_rfl) (by as_aux_lemma => kernel_rfl)) (by as_aux_lemma => kernel_rfl) (by as_aux_lemma => kernel_rfl) (by as_aux_lemma => kernel_rfl) (laidAll_met os _)) ?_
  intro W base args ds gs before hS hval0 hW hL0
  have hL : laidMet Tryd.prog Rows.xmlCutRow.laid W := by rw [← plain]; exact hL0
  have hp : Tryd.f8.params = #[9, 3] := by kernel_rfl
  have hval : ∀ (j : Nat) t v, Tryd.f8.params[j]? = some t → args[j]? = some v → Value.okWide Tryd.prog W .any base t v := hval0
  have hW' := hW
  obtain ⟨p, q, hA0, hV, rfl, hfz, hnd⟩ := hW
  have hA : DataW.TrodAll enc Tryd.prog W 0 (fun _ => true) true Tryd.f8.params.toList args.toList ds p := hA0
  rw [hp] at hA hval
  obtain ⟨v0, vs0, d0, ds0, p0, q0, hargs, rfl, rfl, h0, r0⟩ := trodAll_cons hA
  obtain ⟨v1, vs1, d1, ds1, p1, q1, rfl, rfl, rfl, h1, r1⟩ := trodAll_cons r0
  obtain ⟨rfl, rfl, rfl⟩ := trodAll_nil r1
  obtain rfl : args = #[v0, v1] := by cases args; simp_all
  obtain ⟨s0, rfl, rfl, rfl, w0⟩ := Go.ChangeMaps.open_string Tryd.underlying9 (hval 0 9 v0 rfl rfl) h0
  obtain ⟨a1, rfl, rfl, rfl, w1⟩ := open_int Tryd.underlying3 (hval 1 3 v1 rfl rfl) h1
  refine (walk s0 a1 W hS hL).mono fun e W' ⟨he, hg⟩ => ?_
  subst he
  exact ⟨_, rfl, post_of_below kids (slices_ok sizes) (by rw [hp]; decide +kernel) hW' rfl rfl (by as_aux_lemma => kernel_rfl) Tryd.underlying4 hg⟩

set_option maxHeartbeats 8000000 in
theorem held : Rows.XmlCutSaid :=
  OpenClaim.holds_of_wide 8 Tryd.f8 rfl rfl rfl rfl rfl rfl rfl ⟨rfl, rfl, rfl, rfl, rfl⟩ rfl rfl rfl rfl rfl (by as_aux_lemma => kernel_rfl) Tryd.func8
    (by unfold joinedFacts; exact and2 (and2 (and2 (and2 (and2 (and2 (and2 (and2 (and2 (and2 (and2 (and2 (and2 (and2 (and2 (and2 (and2 (and2 (and2 (and2 (and2 (and2 (and2 (and2 (and2 (and2 (and2 (and2 (and2 (and2 (and2 (by as_aux_lemma => kernel_rfl) laid) rowed) (by as_aux_lemma => kernel_rfl)) (by as_aux_lemma => kernel_rfl)) (by as_aux_lemma => kernel_rfl)) stops) (by as_aux_lemma => kernel_rfl)) knobs) (by as_aux_lemma => kernel_rfl)) (by as_aux_lemma => kernel_rfl)) (by as_aux_lemma => kernel_rfl)) (by as_aux_lemma => kernel_rfl)) (by as_aux_lemma => kernel_rfl)) (by as_aux_lemma => kernel_rfl)) (by as_aux_lemma => kernel_rfl)) (by as_aux_lemma => kernel_rfl)) (by as_aux_lemma => kernel_rfl)) (by as_aux_lemma => kernel_rfl)) (by as_aux_lemma => kernel_rfl)) (by as_aux_lemma => kernel_rfl)) (by as_aux_lemma => kernel_rfl)) (by as_aux_lemma => kernel_rfl)) (by as_aux_lemma => kernel_rfl)) heard) enter) (by as_aux_lemma => kernel_rfl)) (by as_aux_lemma => kernel_rfl)) (by as_aux_lemma => kernel_rfl)) (by as_aux_lemma => kernel_rfl)) (by as_aux_lemma => kernel_rfl)) (by as_aux_lemma => kernel_rfl))
    (of_decide_eq_true (by as_aux_lemma => kernel_rfl)) (by unfold Func.isWrapper; first | (rw [if_pos (by decide +kernel)]; kernel_rfl) | (rw [if_neg (by decide +kernel)]; exact ⟨rfl, rfl⟩))
    (fun os started H enc _ => lifted os started H enc)

set_option maxHeartbeats 8000000 in
theorem proved : Rows.XmlCutCardSaid :=
  Claim7.holds_tied_plain_at .later [] [.data, .data, .data, .data, .sentinel, .sentinel, .pinned] true (true, "327adbd85e3f3614c423e6d8def3aa6671582508278f47ae717d1714a0c01c39") true held (fun _ h => by cases h) (by as_aux_lemma => kernel_rfl) (fun _ h => by cases h) xmlCut_row_tie rfl ⟨rfl, rfl⟩ (by as_aux_lemma => kernel_rfl) rfl
    (fun f fn hf hfn => by
      obtain rfl : f = 8 := Option.some.inj ((show Tryd.prog.funcNamed "gatehouse/gatehouselaw25.XmlCut" = some 8 by as_aux_lemma => kernel_rfl).symm.trans hf) |>.symm
      obtain rfl : fn = Tryd.f8 := (Option.some.inj (Tryd.func8.symm.trans hfn)).symm
      exact ⟨(by as_aux_lemma => kernel_rfl), fun j t ht => by
        have hp : Tryd.f8.params = #[9, 3] := by kernel_rfl
        rw [hp] at ht
        have hm : t ∈ ([9, 3] : List TypeId) := by simpa using Array.mem_of_getElem? ht
        have hall : (([9, 3] : List TypeId).all fun u => !Tryd.prog.wantsStandIn u) = true := by kernel_rfl
        exact (show Tryd.prog.wantsStandIn t = false by simpa using List.all_eq_true.1 hall t hm)⟩)
    (by as_aux_lemma => kernel_rfl)
end Go.Proofs.YtbkhielalbbopaaDoor.xmlCut
