/- SoapWrites returns true, whatever the text, the texts and the number. Condition: strconv.ErrSyntax and the table of tens hold what the row lists (the card ties them to the text); MaxLen may hold whatever integer. -/
import Derived.Test.YtbkhielalbbopaaGreatDoorRows
import Derived.Test.YtbkhielalbbopaaGreatDoorCards
import Derived.Test.YtbkhielalbbopaaGreatDoorTie
import Derived.Test.YtbkhielalbbopaaGreatDoorFactsYtbkZ
import Derived.Test.YtbkhielalbbopaaGreatDoorSoapAw
import Derived.Test.YtbkhielalbbopaaGreatDoorZr
import Derived.Test.YtbkhielalbbopaaGreatDoorM5
import Derived.WalkKit
import Derived.ProofKit
import Derived.Lay
import Derived.LaidOnce
import Derived.SevenTiedAt
import Derived.ChangeMaps5
set_option maxRecDepth 100000
namespace Go.Proofs.YtbkhielalbbopaaGreatDoor.soapWrites
open Go Go.ChangeShapes Go.WideShapes Go.ChangeAt Go.RowKit Go.Lib Go.Am Go.Proofs.YtbkhielalbbopaaGreatDoor.Facts

theorem maxLen_cell {W : World} (hS : W.ShapedOpen Tryz.prog) : ∃ m, W.cell? ⟨2, 0, none⟩ = some (.int .i64 m) :=
  Go.Proofs.cell_of_shapedOpen_int (zero := #[.int .i64 0]) hS (of_decide_eq_true (by kernel_rfl)) (by kernel_rfl) rfl (by kernel_rfl) (by kernel_rfl) Tryz.underlying3

def tens : List Int := [1, 10, 100, 1000, 10000, 100000, 1000000, 10000000, 100000000, 1000000000, 10000000000, 100000000000, 1000000000000, 10000000000000, 100000000000000, 1000000000000000, 10000000000000000, 100000000000000000, 1000000000000000000, 10000000000000000000]
theorem tabs {W : World} (hL : laidMet Tryz.prog Rows.soapWritesRow.laid W) : LaidAt W [(3, .u64, tens)] :=
  .cons (tabIs_of_reads (g := 3) (by kernel_rfl) (by kernel_rfl) Tryz.underlying203 Tryz.underlying177 (by kernel_rfl) (by kernel_rfl) (laidMet.reads hL (n := "internal/strconv.uint64pow10") (d := Rows.laid_internal_strconv_uint64pow10) (by simp [Rows.soapWritesRow]))) (by kernel_rfl) (by decide) (by decide) (.nil W)

theorem star : "*" ++ "errors.errorString" = "*errors.errorString" := by decide
theorem rowErr (u : TypeId) (h : Tryz.prog.typeName? 3 u = some "*errors.errorString") : u = 217 :=
  typeName_ptr_named (nm := "errors.errorString") (by rw [star]; kernel_rfl) (by kernel_rfl) (by decide) u (by rw [star]; exact h)

theorem errSyntax_cell {W : World} (hL : laidMet Tryz.prog Rows.soapWritesRow.laid W) : ∃ a : Addr, a.spot = none ∧ W.cell? ⟨4, 0, none⟩ = some (.iface 217 (.pointer (some a))) := by
  have hL1 : laidMet Tryz.prog (("strconv.ErrSyntax", .iface "*errors.errorString" (.ptr (.agg [.lit (.string [105, 110, 118, 97, 108, 105, 100, 32, 115, 121, 110, 116, 97, 120])]))) :: [("unicode/utf8.first", Rows.laid_unicode_utf8_first)]) W := hL.tail.tail.tail.tail.tail
  have hg : Tryz.prog.globalNamed "strconv.ErrSyntax" = some 4 := by kernel_rfl
  obtain ⟨a, s, hv, hc, -, -⟩ := laid_sentinel hL1 hg (by kernel_rfl) Tryz.underlying142 rowErr Tryz.underlying217 Tryz.underlying219 rfl rfl Tryz.underlying9 (by kernel_rfl) (by kernel_rfl)
  refine ⟨a, ?_, by have h0 := World.var?_cell hg hv 0; simpa using h0⟩
  unfold World.cell? at hc
  split at hc
  · cases hs : a.spot with
    | none => rfl
    | some z => rw [hs] at hc; simp at hc
  · cases hc

theorem walk {H' : Type} {enc : TypeId × Value → H'} {d : DataW H'} {p : List MemPlace} (s0 : ByteArray) (v1 : Value) (a2 : Int) (W : World) (hS : W.ShapedOpen Tryz.prog) (hL : laidMet Tryz.prog Rows.soapWritesRow.laid W) (e1 : v1.cells = #[v1]) (h1 : DataW.Trod enc Tryz.prog W 0 (fun _ => true) true 59 v1 d p) :
    Calls Tryz.prog 6 #[.string s0, v1, .int .i64 a2] W fun e w' => e = .returned (.bool true) ∧ Below W.heap.size W w' := by
  obtain ⟨m, hm⟩ := maxLen_cell hS
  obtain ⟨a, ha, he⟩ := errSyntax_cell hL
  obtain ⟨u, ss, q, b, o, ho⟩ := open_strs 17 Tryz.underlying59 Tryz.underlying9 (by kernel_rfl) e1 h1
  have R := hrel_four Tryz.prog W (g := 2) (t := 3) (e := 4) (by decide) (by decide) (by decide) ha hm he (tabs hL) o
  have g2 : (mem4 2 m 3 tens 4 217 b).get 2 = some (.c [.i .i64 m] 0 false) := by
    unfold mem4
    rw [T.get_put, if_pos rfl]
  have g3 : (mem4 2 m 3 tens 4 217 b).get 3 = some (.c (tens.map (V.i .u64)) 0 false) := by
    unfold mem4
    rw [T.get_put, if_neg (by decide), T.get_put, if_pos rfl]
  have g4 : (mem4 2 m 3 tens 4 217 b).get 4 = some (.c [.ic 217 (.p 16 0)] 0 false) := by
    unfold mem4
    rw [T.get_put, if_neg (by decide), T.get_put, if_neg (by decide), T.get_put, if_pos rfl]
  have g17 : (mem4 2 m 3 tens 4 217 b).get 17 = b := by
    unfold mem4
    rw [T.get_put, if_neg (by decide), T.get_put, if_neg (by decide), T.get_put, if_neg (by decide), T.get_put, if_pos rfl]
  have L : Wb.Low ⟨18, mem4 2 m 3 tens 4 217 b⟩ := ⟨⟨m, 0, false, g2⟩, ⟨217, 16, 0, false, g4⟩, by show 16 ≤ 18; decide⟩
  have P : Wb.P10 ⟨18, mem4 2 m 3 tens 4 217 b⟩ := ⟨_, 0, false, g3, rfl, rfl, by show 3 < 18; decide⟩
  have main : Ok Tryz.prog 100 6 [.s s0.data.toList, u, .i .i64 a2] ⟨18, mem4 2 m 3 tens 4 217 b⟩ (fun v _ => v = .b true) :=
    Wb.writes_law (n := 99) (by decide) (fun r c hc => R.next r c hc) L P (ho _ _ g17 (by decide)) (fun k => ok_true' Wb.aw8 rfl fun g' hb f => k g' hb f) fun _ _ => rfl
  exact calls_ok main R (rens_mk (by obtain ⟨⟨l⟩⟩ := s0; rfl) (rens_mk (o.ren (j2 a.block a.off q) rfl) (rens_mk rfl rfl))) fun r hr => by
    unfold j2
    have : 18 ≤ r := hr
    rw [if_neg (by omega), if_neg (by omega), if_neg (by omega)]

theorem plain : ∀ w, laidMetH Tryz.prog Rows.soapWritesRow.laid w = laidMet Tryz.prog Rows.soapWritesRow.laid w := fun w => MakeChecks.laidMetH_plain _ _ _ (by as_aux_lemma => kernel_rfl)
theorem laidAll_met (os : Os) (args : Array Value) : laidMetH Tryz.prog Rows.soapWritesRow.laid ((World.laidAll Tryz.prog os Rows.soapWritesRow.laid).forCall (fun _ _ => 0) ⟨#[], args, []⟩).memory := by
  rw [plain]
  exact laidMet_laidAll _ (by as_aux_lemma => kernel_rfl) (by as_aux_lemma => kernel_rfl)

theorem lifted (os : Os) (started : os.Started) (H : Type) (enc : TypeId × Value → H) :
    ReturnsInHanded {} Tryz.checked os 6 .any (fun w args => (Rows.soapWritesSpec.pre enc Tryz.prog Tryz.f6 [] false w args ∧ laidMetH Tryz.prog Rows.soapWritesRow.laid w) ∧ sizedMet enc Tryz.prog Tryz.f6 (OpenSpec.ofChange Rows.soapWritesSpec) false w args)
      (Rows.soapWritesSpec.post enc Tryz.prog Tryz.f6 false true false false) := by
  refine handed_and_shaped (C := Tryz.checked) (X := fun w _ => laidMetH Tryz.prog Rows.soapWritesRow.laid w) (fun _ _ _ hh h => h.of_heap hh) own started (by as_aux_lemma => kernel_rfl) Tryz.func6
    (ChangeSpec.witness_shaped (enc := enc) (C := Tryz.checked) (os := os) (X := fun w _ => laidMetH Tryz.prog Rows.soapWritesRow.laid w) false (World.laidAll Tryz.prog os Rows.soapWritesRow.laid) #[.string ⟨#[]⟩, .slice none 0 0, .int .i64 0] 8 (World.laidAll_os _ _ _)
      (World.shaped_of_ZipB (by as_aux_lemma => kernel_rfl) (by as_aux_lemma => kernel_rfl)) (by as_aux_lemma => kernel_rfl) (by as_aux_lemma => kernel_rfl) (by as_aux_lemma => kernel_rfl) (laidAll_met os _)) ?_
  intro W base args ds gs before hS hval0 hW hL0
  have hL : laidMet Tryz.prog Rows.soapWritesRow.laid W := by rw [← plain]; exact hL0
  have hp : Tryz.f6.params = #[9, 59, 3] := by kernel_rfl
  have hval : ∀ (j : Nat) t v, Tryz.f6.params[j]? = some t → args[j]? = some v → Value.okWide Tryz.prog W .any base t v := hval0
  have hW' := hW
  obtain ⟨p, q, hA0, hV, rfl, hfz, hnd⟩ := hW
  have hA : DataW.TrodAll enc Tryz.prog W 0 (fun _ => true) true Tryz.f6.params.toList args.toList ds p := hA0
  rw [hp] at hA hval
  obtain ⟨v0, vs0, d0, ds0, p0, q0, hargs, rfl, rfl, h0, r0⟩ := trodAll_cons hA
  obtain ⟨v1, vs1, d1, ds1, p1, q1, rfl, rfl, rfl, h1, r1⟩ := trodAll_cons r0
  obtain ⟨v2, vs2, d2, ds2, p2, q2, rfl, rfl, rfl, h2, r2⟩ := trodAll_cons r1
  obtain ⟨rfl, rfl, rfl⟩ := trodAll_nil r2
  obtain rfl : args = #[v0, v1, v2] := by cases args; simp_all
  obtain ⟨s0, rfl, rfl, rfl, w0⟩ := Go.ChangeMaps.open_string Tryz.underlying9 (hval 0 9 v0 rfl rfl) h0
  have e1 : v1.cells = #[v1] := by
    obtain ⟨a, len, cap, rfl⟩ := okWide_slice Tryz.underlying59 (hval 1 59 v1 rfl rfl)
    rfl
  obtain ⟨a2, rfl, rfl, rfl, w2⟩ := open_int Tryz.underlying3 (hval 2 3 v2 rfl rfl) h2
  refine (walk s0 v1 a2 W hS hL e1 h1).mono fun e W' ⟨he, hg⟩ => ?_
  subst he
  exact ⟨_, rfl, post_of_below kids (slices_ok sizes) (by rw [hp]; decide +kernel) hW' rfl rfl (by as_aux_lemma => kernel_rfl) Tryz.underlying4 hg⟩

set_option maxHeartbeats 8000000 in
theorem held : Rows.SoapWritesSaid :=
  OpenClaim.holds_of_wide 6 Tryz.f6 rfl rfl rfl rfl rfl rfl rfl ⟨rfl, rfl, rfl, rfl, rfl⟩ rfl rfl rfl rfl rfl (by as_aux_lemma => kernel_rfl) Tryz.func6
    (by unfold joinedFacts; exact and2 (and2 (and2 (and2 (and2 (and2 (and2 (and2 (and2 (and2 (and2 (and2 (and2 (and2 (and2 (and2 (and2 (and2 (and2 (and2 (and2 (and2 (and2 (and2 (and2 (and2 (and2 (and2 (and2 (and2 (and2 (by as_aux_lemma => kernel_rfl) laid) rowed) (by as_aux_lemma => kernel_rfl)) (by as_aux_lemma => kernel_rfl)) (by as_aux_lemma => kernel_rfl)) stops) (by as_aux_lemma => kernel_rfl)) knobs) (by as_aux_lemma => kernel_rfl)) (by as_aux_lemma => kernel_rfl)) (by as_aux_lemma => kernel_rfl)) (by as_aux_lemma => kernel_rfl)) (by as_aux_lemma => kernel_rfl)) (by as_aux_lemma => kernel_rfl)) (by as_aux_lemma => kernel_rfl)) (by as_aux_lemma => kernel_rfl)) (by as_aux_lemma => kernel_rfl)) (by as_aux_lemma => kernel_rfl)) (by as_aux_lemma => kernel_rfl)) (by as_aux_lemma => kernel_rfl)) (by as_aux_lemma => kernel_rfl)) (by as_aux_lemma => kernel_rfl)) (by as_aux_lemma => kernel_rfl)) heard) enter) (by as_aux_lemma => kernel_rfl)) (by as_aux_lemma => kernel_rfl)) (by as_aux_lemma => kernel_rfl)) (by as_aux_lemma => kernel_rfl)) (by as_aux_lemma => kernel_rfl)) (by as_aux_lemma => kernel_rfl))
    (of_decide_eq_true (by as_aux_lemma => kernel_rfl)) (by unfold Func.isWrapper; first | (rw [if_pos (by decide +kernel)]; kernel_rfl) | (rw [if_neg (by decide +kernel)]; exact ⟨rfl, rfl⟩))
    (fun os started H enc _ => lifted os started H enc)

set_option maxHeartbeats 8000000 in
theorem proved : Rows.SoapWritesCardSaid :=
  Claim7.holds_tied_plain_at .later [] [.data, .data, .data, .data, .sentinel, .sentinel, .pinned] true (true, "ca332eb359dc1b10a69482e0be103e1c16d056a28564f46303def4fd668800a0") true held (fun _ h => by cases h) (by as_aux_lemma => kernel_rfl) (fun _ h => by cases h) soapWrites_row_tie rfl ⟨rfl, rfl⟩ (by as_aux_lemma => kernel_rfl) rfl
    (fun f fn hf hfn => by
      obtain rfl : f = 6 := Option.some.inj ((show Tryz.prog.funcNamed "gatehouse/gatehouselaw26.SoapWrites" = some 6 by as_aux_lemma => kernel_rfl).symm.trans hf) |>.symm
      obtain rfl : fn = Tryz.f6 := (Option.some.inj (Tryz.func6.symm.trans hfn)).symm
      exact ⟨(by as_aux_lemma => kernel_rfl), fun j t ht => by
        have hp : Tryz.f6.params = #[9, 59, 3] := by kernel_rfl
        rw [hp] at ht
        have hm : t ∈ ([9, 59, 3] : List TypeId) := by simpa using Array.mem_of_getElem? ht
        have hall : (([9, 59, 3] : List TypeId).all fun u => !Tryz.prog.wantsStandIn u) = true := by kernel_rfl
        exact (show Tryz.prog.wantsStandIn t = false by simpa using List.all_eq_true.1 hall t hm)⟩)
    (by as_aux_lemma => kernel_rfl)
end Go.Proofs.YtbkhielalbbopaaGreatDoor.soapWrites
