/- XmlTexts returns true, whatever the texts and the number. Condition: strconv.ErrSyntax holds what its row lists (the card ties it to the text); MaxLen may hold whatever integer. -/
import Derived.Test.YtbkhielalbbopaaDoorRows
import Derived.Test.YtbkhielalbbopaaDoorCards
import Derived.Test.YtbkhielalbbopaaDoorTie
import Derived.Test.YtbkhielalbbopaaDoorFactsYtbkD
import Derived.Test.YtbkhielalbbopaaDoorXr
import Derived.Test.YtbkhielalbbopaaDoorXl7
import Derived.Test.YtbkhielalbbopaaDoorM4
import Derived.WalkKit
import Derived.ProofKit
import Derived.Lay
import Derived.LaidOnce
import Derived.SevenTiedAt
import Derived.ChangeMaps5
set_option maxRecDepth 100000
namespace Go.Proofs.YtbkhielalbbopaaDoor.xmlTexts
open Go Go.ChangeShapes Go.WideShapes Go.ChangeAt Go.RowKit Go.Lib Go.Am Go.Proofs.YtbkhielalbbopaaDoor.Facts

theorem maxLen_cell {W : World} (hS : W.ShapedOpen Tryd.prog) : ∃ m, W.cell? ⟨2, 0, none⟩ = some (.int .i64 m) :=
  Go.Proofs.cell_of_shapedOpen_int (zero := #[.int .i64 0]) hS (of_decide_eq_true (by kernel_rfl)) (by kernel_rfl) rfl (by kernel_rfl) (by kernel_rfl) Tryd.underlying3

theorem star : "*" ++ "errors.errorString" = "*errors.errorString" := by decide
theorem row102 (u : TypeId) (h : Tryd.prog.typeName? 3 u = some "*errors.errorString") : u = 102 :=
  typeName_ptr_named (nm := "errors.errorString") (by rw [star]; kernel_rfl) (by kernel_rfl) (by decide) u (by rw [star]; exact h)

theorem errSyntax_cell {W : World} (hL : laidMet Tryd.prog Rows.xmlTextsRow.laid W) : ∃ a : Addr, a.spot = none ∧ W.cell? ⟨3, 0, none⟩ = some (.iface 102 (.pointer (some a))) := by
  have hL1 : laidMet Tryd.prog (("strconv.ErrSyntax", .iface "*errors.errorString" (.ptr (.agg [.lit (.string [105, 110, 118, 97, 108, 105, 100, 32, 115, 121, 110, 116, 97, 120])]))) :: [("unicode/utf8.first", Rows.laid_unicode_utf8_first)]) W := hL.tail.tail.tail.tail.tail
  have hg : Tryd.prog.globalNamed "strconv.ErrSyntax" = some 3 := by kernel_rfl
  obtain ⟨a, s, hv, hc, -, -⟩ := laid_sentinel hL1 hg (by kernel_rfl) Tryd.underlying51 row102 Tryd.underlying102 Tryd.underlying104 rfl rfl Tryd.underlying9 (by kernel_rfl) (by kernel_rfl)
  refine ⟨a, ?_, by have h0 := World.var?_cell hg hv 0; simpa using h0⟩
  unfold World.cell? at hc
  split at hc
  · cases hs : a.spot with
    | none => rfl
    | some z => rw [hs] at hc; simp at hc
  · cases hc

theorem aw_run : (sem (mkX Tryd.prog) 100000 99 9 [] ⟨17, .l⟩).map (·.1) = some (.b true) := by kernel_rfl

theorem walk (s0 : ByteArray) (s1 : ByteArray) (a2 : Int) (W : World) (hS : W.ShapedOpen Tryd.prog) (hL : laidMet Tryd.prog Rows.xmlTextsRow.laid W) : Calls Tryd.prog 5 #[.string s0, .string s1, .int .i64 a2] W fun e w' => e = .returned (.bool true) ∧ Below W.heap.size W w' := by
  obtain ⟨m, hm⟩ := maxLen_cell hS
  obtain ⟨a, ha, he⟩ := errSyntax_cell hL
  refine calls_two (n := 100) (args := [.s s0.data.toList, .s s1.data.toList, .i .i64 a2]) W (by decide) (by decide) ha hm he ?_ (by obtain ⟨⟨l0⟩⟩ := s0; obtain ⟨⟨l1⟩⟩ := s1; rfl)
  have L : Wb.Low ⟨17, mem2 2 .i64 m 3 102⟩ := by
    refine ⟨⟨m, 0, false, ?_⟩, ⟨102, 16, 0, false, ?_⟩, by show 16 ≤ 17; decide⟩
    · show ((T.l.put 3 _).put 2 _).get 2 = _
      rw [T.get_put, if_pos rfl]
    · show ((T.l.put 3 _).put 2 _).get 3 = _
      rw [T.get_put, if_neg (by decide), T.get_put, if_pos rfl]
  exact Wb.texts_law (n := 99) (by decide) L (fun k => ok_true' aw_run rfl fun g' _ f => k g' f) fun _ _ => rfl

theorem plain : ∀ w, laidMetH Tryd.prog Rows.xmlTextsRow.laid w = laidMet Tryd.prog Rows.xmlTextsRow.laid w := fun w => MakeChecks.laidMetH_plain _ _ _ (by as_aux_lemma => kernel_rfl)
theorem laidAll_met (os : Os) (args : Array Value) : laidMetH Tryd.prog Rows.xmlTextsRow.laid ((World.laidAll Tryd.prog os Rows.xmlTextsRow.laid).forCall (fun _ _ => 0) ⟨#[], args, []⟩).memory := by
  rw [plain]
  exact laidMet_laidAll _ (by as_aux_lemma => kernel_rfl) (by as_aux_lemma => kernel_rfl)

theorem lifted (os : Os) (started : os.Started) (H : Type) (enc : TypeId × Value → H) :
    ReturnsInHanded {} Tryd.checked os 5 .any (fun w args => (Rows.xmlTextsSpec.pre enc Tryd.prog Tryd.f5 [] false w args ∧ laidMetH Tryd.prog Rows.xmlTextsRow.laid w) ∧ sizedMet enc Tryd.prog Tryd.f5 (OpenSpec.ofChange Rows.xmlTextsSpec) false w args)
      (Rows.xmlTextsSpec.post enc Tryd.prog Tryd.f5 false true false false) := by
  refine handed_and_shaped (C := Tryd.checked) (X := fun w _ => laidMetH Tryd.prog Rows.xmlTextsRow.laid w) (fun _ _ _ hh h => h.of_heap hh) own started (by as_aux_lemma => kernel_rfl) Tryd.func5
    (ChangeSpec.witness_shaped (enc := enc) (C := Tryd.checked) (os := os) (X := fun w _ => laidMetH Tryd.prog Rows.xmlTextsRow.laid w) false (World.laidAll Tryd.prog os Rows.xmlTextsRow.laid) #[.string ⟨#[]⟩, .string ⟨#[]⟩, .int .i64 0] 8 (World.laidAll_os _ _ _)
      (World.shaped_of_ZipB (by as_aux_lemma => kernel_rfl) (by as_aux_lemma => kernel_rfl)) (by as_aux_lemma => kernel_rfl) (by as_aux_lemma => kernel_rfl) (by as_aux_lemma => kernel_rfl) (laidAll_met os _)) ?_
  intro W base args ds gs before hS hval0 hW hL0
  have hL : laidMet Tryd.prog Rows.xmlTextsRow.laid W := by rw [← plain]; exact hL0
  have hp : Tryd.f5.params = #[9, 9, 3] := by kernel_rfl
  have hval : ∀ (j : Nat) t v, Tryd.f5.params[j]? = some t → args[j]? = some v → Value.okWide Tryd.prog W .any base t v := hval0
  have hW' := hW
  obtain ⟨p, q, hA0, hV, rfl, hfz, hnd⟩ := hW
  have hA : DataW.TrodAll enc Tryd.prog W 0 (fun _ => true) true Tryd.f5.params.toList args.toList ds p := hA0
  rw [hp] at hA hval
  obtain ⟨v0, vs0, d0, ds0, p0, q0, hargs, rfl, rfl, h0, r0⟩ := trodAll_cons hA
  obtain ⟨v1, vs1, d1, ds1, p1, q1, rfl, rfl, rfl, h1, r1⟩ := trodAll_cons r0
  obtain ⟨v2, vs2, d2, ds2, p2, q2, rfl, rfl, rfl, h2, r2⟩ := trodAll_cons r1
  obtain ⟨rfl, rfl, rfl⟩ := trodAll_nil r2
  obtain rfl : args = #[v0, v1, v2] := by cases args; simp_all
  obtain ⟨s0, rfl, rfl, rfl, w0⟩ := Go.ChangeMaps.open_string Tryd.underlying9 (hval 0 9 v0 rfl rfl) h0
  obtain ⟨s1, rfl, rfl, rfl, w1⟩ := Go.ChangeMaps.open_string Tryd.underlying9 (hval 1 9 v1 rfl rfl) h1
  obtain ⟨a2, rfl, rfl, rfl, w2⟩ := open_int Tryd.underlying3 (hval 2 3 v2 rfl rfl) h2
  refine (walk s0 s1 a2 W hS hL).mono fun e W' ⟨he, hg⟩ => ?_
  subst he
  exact ⟨_, rfl, post_of_below kids (slices_ok sizes) (by rw [hp]; decide +kernel) hW' rfl rfl (by as_aux_lemma => kernel_rfl) Tryd.underlying4 hg⟩

set_option maxHeartbeats 8000000 in
theorem held : Rows.XmlTextsSaid :=
  OpenClaim.holds_of_wide 5 Tryd.f5 rfl rfl rfl rfl rfl rfl rfl ⟨rfl, rfl, rfl, rfl, rfl⟩ rfl rfl rfl rfl rfl (by as_aux_lemma => kernel_rfl) Tryd.func5
    (by unfold joinedFacts; exact and2 (and2 (and2 (and2 (and2 (and2 (and2 (and2 (and2 (and2 (and2 (and2 (and2 (and2 (and2 (and2 (and2 (and2 (and2 (and2 (and2 (and2 (and2 (and2 (and2 (and2 (and2 (and2 (and2 (and2 (and2 (by as_aux_lemma => kernel_rfl) laid) rowed) (by as_aux_lemma => kernel_rfl)) (by as_aux_lemma => kernel_rfl)) (by as_aux_lemma => kernel_rfl)) stops) (by as_aux_lemma => kernel_rfl)) knobs) (by as_aux_lemma => kernel_rfl)) (by as_aux_lemma => kernel_rfl)) (by as_aux_lemma => kernel_rfl)) (by as_aux_lemma => kernel_rfl)) (by as_aux_lemma => kernel_rfl)) (by as_aux_lemma => kernel_rfl)) (by as_aux_lemma => kernel_rfl)) (by as_aux_lemma => kernel_rfl)) (by as_aux_lemma => kernel_rfl)) (by as_aux_lemma => kernel_rfl)) (by as_aux_lemma => kernel_rfl)) (by as_aux_lemma => kernel_rfl)) (by as_aux_lemma => kernel_rfl)) (by as_aux_lemma => kernel_rfl)) (by as_aux_lemma => kernel_rfl)) heard) enter) (by as_aux_lemma => kernel_rfl)) (by as_aux_lemma => kernel_rfl)) (by as_aux_lemma => kernel_rfl)) (by as_aux_lemma => kernel_rfl)) (by as_aux_lemma => kernel_rfl)) (by as_aux_lemma => kernel_rfl))
    (of_decide_eq_true (by as_aux_lemma => kernel_rfl)) (by unfold Func.isWrapper; first | (rw [if_pos (by decide +kernel)]; kernel_rfl) | (rw [if_neg (by decide +kernel)]; exact ⟨rfl, rfl⟩))
    (fun os started H enc _ => lifted os started H enc)

set_option maxHeartbeats 8000000 in
theorem proved : Rows.XmlTextsCardSaid :=
  Claim7.holds_tied_plain_at .later [] [.data, .data, .data, .data, .sentinel, .sentinel, .pinned] true (true, "327adbd85e3f3614c423e6d8def3aa6671582508278f47ae717d1714a0c01c39") true held (fun _ h => by cases h) (by as_aux_lemma => kernel_rfl) (fun _ h => by cases h) xmlTexts_row_tie rfl ⟨rfl, rfl⟩ (by as_aux_lemma => kernel_rfl) rfl
    (fun f fn hf hfn => by
      obtain rfl : f = 5 := Option.some.inj ((show Tryd.prog.funcNamed "gatehouse/gatehouselaw25.XmlTexts" = some 5 by as_aux_lemma => kernel_rfl).symm.trans hf) |>.symm
      obtain rfl : fn = Tryd.f5 := (Option.some.inj (Tryd.func5.symm.trans hfn)).symm
      exact ⟨(by as_aux_lemma => kernel_rfl), fun j t ht => by
        have hp : Tryd.f5.params = #[9, 9, 3] := by kernel_rfl
        rw [hp] at ht
        have hm : t ∈ ([9, 9, 3] : List TypeId) := by simpa using Array.mem_of_getElem? ht
        have hall : (([9, 9, 3] : List TypeId).all fun u => !Tryd.prog.wantsStandIn u) = true := by kernel_rfl
        exact (show Tryd.prog.wantsStandIn t = false by simpa using List.all_eq_true.1 hall t hm)⟩)
    (by as_aux_lemma => kernel_rfl)
end Go.Proofs.YtbkhielalbbopaaDoor.xmlTexts
