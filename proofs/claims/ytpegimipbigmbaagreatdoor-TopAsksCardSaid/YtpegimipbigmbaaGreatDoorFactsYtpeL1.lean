/- The laid variables of the given program, where they lie in the first memory: each closed fact of the rows' witness by itself. -/
import Derived.Test.YtpegimipbigmbaaGreatDoorRows
import Derived.Test.YtpegimipbigmbaaGreatDoorFactsYtpeN
import Derived.Test.YtpegimipbigmbaaGreatDoorFactsYtpeW
import Derived.LaidOnce
import Derived.Handed
import Derived.WideWitness
set_option maxRecDepth 100000
set_option maxHeartbeats 8000000
namespace Go.Proofs.YtpegimipbigmbaaGreatDoor.Facts
open Go
noncomputable abbrev LL : List (String × DataW Unit) := [("unicode/utf8.first", Rows.laid_unicode_utf8_first), ("unicode/utf8.acceptRanges", Rows.laid_unicode_utf8_acceptRanges), ("strconv.ErrSyntax", Rows.laid_strconv_ErrSyntax), ("strconv.ErrRange", Rows.laid_strconv_ErrRange), ("internal/strconv.uint64pow10", Rows.laid_internal_strconv_uint64pow10), ("math/bits.deBruijn32tab", Rows.laid_math_bits_deBruijn32tab), ("math/bits.deBruijn64tab", Rows.laid_math_bits_deBruijn64tab)]
theorem list_cons {P : Program} {n g : Nat} {t : TypeId} {x : String × DataW Unit} {r : List (String × DataW Unit)} {y : List Value × List Obj} {z : List (Nat × List Value) × List Obj}
  (h1 : P.globalNamed x.1 = some g) (h2 : (P.globals[g]?).map (·.type) = some t) (h3 : x.2.lay P t n = some y) (h4 : Lay.layList P (n + y.2.length) r = some z) : Lay.layList P n (x :: r) = some ((g, y.1) :: z.1, y.2 ++ z.2) := by
 unfold Lay.layList
 rw [h1]
 cases e : P.globals[g]? with
 | none => rw [e] at h2; cases h2
 | some gl =>
  rw [e] at h2
  cases h2
  simp only [h3, h4, e]
theorem lay_iface {P : Program} {t u n : Nat} {name : String} {d : DataW Unit} {x : List Value × List Obj} {v : Value} (h1 : (match P.underlying t with | some (.interface _) => true | _ => false) = true)
  (h2 : (List.range P.types.size).find? (fun u => P.typeName? 3 u == some name) = some u) (h3 : d.lay P u n = some x) (h4 : Lay.pack P u x.1 = some v) : (DataW.iface name d).lay P t n = some ([.iface u v], x.2) := by
 unfold DataW.lay
 rw [h2]
 split at h1
 ·rename_i e
  simp only [e, h3, h4]
 ·cases h1
def y0 : List Value := ([240, 240, 240, 240, 240, 240, 240, 240, 240, 240, 240, 240, 240, 240, 240, 240, 240, 240, 240, 240, 240, 240, 240, 240, 240, 240, 240, 240, 240, 240, 240, 240, 240, 240, 240, 240, 240, 240, 240, 240, 240, 240, 240, 240, 240, 240, 240, 240, 240, 240, 240, 240, 240, 240, 240, 240, 240, 240, 240, 240, 240, 240, 240, 240, 240, 240, 240, 240, 240, 240, 240, 240, 240, 240, 240, 240, 240, 240, 240, 240, 240, 240, 240, 240, 240, 240, 240, 240, 240, 240, 240, 240, 240, 240, 240, 240, 240, 240, 240, 240, 240, 240, 240, 240, 240, 240, 240, 240, 240, 240, 240, 240, 240, 240, 240, 240, 240, 240, 240, 240, 240, 240, 240, 240, 240, 240, 240, 240, 241, 241, 241, 241, 241, 241, 241, 241, 241, 241, 241, 241, 241, 241, 241, 241, 241, 241, 241, 241, 241, 241, 241, 241, 241, 241, 241, 241, 241, 241, 241, 241, 241, 241, 241, 241, 241, 241, 241, 241, 241, 241, 241, 241, 241, 241, 241, 241, 241, 241, 241, 241, 241, 241, 241, 241, 241, 241, 241, 241, 241, 241, 241, 241, 241, 241, 2, 2, 2, 2, 2, 2, 2, 2, 2, 2, 2, 2, 2, 2, 2, 2, 2, 2, 2, 2, 2, 2, 2, 2, 2, 2, 2, 2, 2, 2, 19, 3, 3, 3, 3, 3, 3, 3, 3, 3, 3, 3, 3, 35, 3, 3, 52, 4, 4, 4, 68, 241, 241, 241, 241, 241, 241, 241, 241, 241, 241, 241] : List Int).map (.int .u8)
def o0 : List Obj := []
theorem ly0 : DataW.lay Tryz.prog 586 13 Rows.laid_unicode_utf8_first = some (y0, o0) := by kernel_rfl
def y1 : List Value := ([128, 191, 160, 191, 128, 159, 144, 191, 128, 143, 0, 0, 0, 0, 0, 0, 0, 0, 0, 0, 0, 0, 0, 0, 0, 0, 0, 0, 0, 0, 0, 0] : List Int).map (.int .u8)
def o1 : List Obj := []
theorem ly1 : DataW.lay Tryz.prog 589 13 Rows.laid_unicode_utf8_acceptRanges = some (y1, o1) := by kernel_rfl
def y2 : List Value := [.iface 723 (.pointer (some ⟨13, 0, none⟩))]
def o2 : List Obj := [.cells #[.string ⟨#[105, 110, 118, 97, 108, 105, 100, 32, 115, 121, 110, 116, 97, 120]⟩] 725]
theorem ly2 : DataW.lay Tryz.prog 119 13 Rows.laid_strconv_ErrSyntax = some (y2, o2) :=
 lay_iface (v := .pointer (some ⟨13, 0, none⟩)) (x := ([.pointer (some ⟨13, 0, none⟩)], o2)) (by as_aux_lemma => kernel_rfl) find_err (by as_aux_lemma => kernel_rfl) (by as_aux_lemma => kernel_rfl)
def y3 : List Value := [.iface 723 (.pointer (some ⟨14, 0, none⟩))]
def o3 : List Obj := [.cells #[.string ⟨#[118, 97, 108, 117, 101, 32, 111, 117, 116, 32, 111, 102, 32, 114, 97, 110, 103, 101]⟩] 725]
theorem ly3 : DataW.lay Tryz.prog 119 14 Rows.laid_strconv_ErrRange = some (y3, o3) :=
 lay_iface (v := .pointer (some ⟨14, 0, none⟩)) (x := ([.pointer (some ⟨14, 0, none⟩)], o3)) (by as_aux_lemma => kernel_rfl) find_err (by as_aux_lemma => kernel_rfl) (by as_aux_lemma => kernel_rfl)
def y4 : List Value := ([1, 10, 100, 1000, 10000, 100000, 1000000, 10000000, 100000000, 1000000000, 10000000000, 100000000000, 1000000000000, 10000000000000, 100000000000000, 1000000000000000, 10000000000000000, 100000000000000000, 1000000000000000000, 10000000000000000000] : List Int).map (.int .u64)
def o4 : List Obj := []
theorem ly4 : DataW.lay Tryz.prog 562 15 Rows.laid_internal_strconv_uint64pow10 = some (y4, o4) := by kernel_rfl
def y5 : List Value := ([0, 1, 28, 2, 29, 14, 24, 3, 30, 22, 20, 15, 25, 17, 4, 8, 31, 27, 13, 23, 21, 19, 16, 7, 26, 12, 18, 6, 11, 5, 10, 9] : List Int).map (.int .u8)
def o5 : List Obj := []
theorem ly5 : DataW.lay Tryz.prog 690 15 Rows.laid_math_bits_deBruijn32tab = some (y5, o5) := by kernel_rfl
def y6 : List Value := ([0, 1, 56, 2, 57, 49, 28, 3, 61, 58, 42, 50, 38, 29, 17, 4, 62, 47, 59, 36, 45, 43, 51, 22, 53, 39, 33, 30, 24, 18, 12, 5, 63, 55, 48, 27, 60, 41, 37, 16, 46, 35, 44, 21, 52, 32, 23, 11, 54, 26, 40, 15, 34, 20, 31, 10, 25, 14, 19, 9, 13, 8, 7, 6] : List Int).map (.int .u8)
def o6 : List Obj := []
theorem ly6 : DataW.lay Tryz.prog 691 15 Rows.laid_math_bits_deBruijn64tab = some (y6, o6) := by kernel_rfl
def YY : List (Nat × List Value) × List Obj := ([(1, y0), (2, y1), (4, y2), (5, y3), (0, y4), (6, y5), (7, y6)], o2 ++ o3)
theorem gn6 : Tryz.prog.globalNamed "math/bits.deBruijn64tab" = some 7 := by kernel_rfl
theorem gt6 : (Tryz.prog.globals[7]?).map (·.type) = some 691 := by kernel_rfl
theorem gn5 : Tryz.prog.globalNamed "math/bits.deBruijn32tab" = some 6 := by kernel_rfl
theorem gt5 : (Tryz.prog.globals[6]?).map (·.type) = some 690 := by kernel_rfl
theorem gn4 : Tryz.prog.globalNamed "internal/strconv.uint64pow10" = some 0 := by kernel_rfl
theorem gt4 : (Tryz.prog.globals[0]?).map (·.type) = some 562 := by kernel_rfl
theorem gn3 : Tryz.prog.globalNamed "strconv.ErrRange" = some 5 := by kernel_rfl
theorem gt3 : (Tryz.prog.globals[5]?).map (·.type) = some 119 := by kernel_rfl
theorem gn2 : Tryz.prog.globalNamed "strconv.ErrSyntax" = some 4 := by kernel_rfl
theorem gt2 : (Tryz.prog.globals[4]?).map (·.type) = some 119 := by kernel_rfl
theorem gn1 : Tryz.prog.globalNamed "unicode/utf8.acceptRanges" = some 2 := by kernel_rfl
theorem gt1 : (Tryz.prog.globals[2]?).map (·.type) = some 589 := by kernel_rfl
theorem gn0 : Tryz.prog.globalNamed "unicode/utf8.first" = some 1 := by kernel_rfl
theorem gt0 : (Tryz.prog.globals[1]?).map (·.type) = some 586 := by kernel_rfl
theorem lay_eq : Lay.layList Tryz.prog 13 LL = some YY := (list_cons (P := Tryz.prog) (n := 13) (g := 1) (t := 586) (x := ("unicode/utf8.first", Rows.laid_unicode_utf8_first)) gn0 gt0 ly0 (list_cons (P := Tryz.prog) (n := 13) (g := 2) (t := 589) (x := ("unicode/utf8.acceptRanges", Rows.laid_unicode_utf8_acceptRanges)) gn1 gt1 ly1 (list_cons (P := Tryz.prog) (n := 13) (g := 4) (t := 119) (x := ("strconv.ErrSyntax", Rows.laid_strconv_ErrSyntax)) gn2 gt2 ly2 (list_cons (P := Tryz.prog) (n := 14) (g := 5) (t := 119) (x := ("strconv.ErrRange", Rows.laid_strconv_ErrRange)) gn3 gt3 ly3 (list_cons (P := Tryz.prog) (n := 15) (g := 0) (t := 562) (x := ("internal/strconv.uint64pow10", Rows.laid_internal_strconv_uint64pow10)) gn4 gt4 ly4 (list_cons (P := Tryz.prog) (n := 15) (g := 6) (t := 690) (x := ("math/bits.deBruijn32tab", Rows.laid_math_bits_deBruijn32tab)) gn5 gt5 ly5 (list_cons (P := Tryz.prog) (n := 15) (g := 7) (t := 691) (x := ("math/bits.deBruijn64tab", Rows.laid_math_bits_deBruijn64tab)) gn6 gt6 ly6 (Lay.layList.eq_1 Tryz.prog 15))))))))
theorem hsize (os : Os) : (World.holding Tryz.prog os ⟨#[], #[], []⟩).heap.size = 13 := by
 unfold World.holding World.settled begin; rw [wt]
 as_aux_lemma => kernel_rfl
theorem laid_eq (os : Os) : World.laidAll Tryz.prog os LL = { (World.holding Tryz.prog os ⟨#[], #[], []⟩) with heap := ⟨Lay.setRows (World.holding Tryz.prog os ⟨#[], #[], []⟩).heap.toList YY.1 ++ YY.2⟩ } := by
 unfold World.laidAll World.layVars
 rw [hsize, lay_eq]
end Go.Proofs.YtpegimipbigmbaaGreatDoor.Facts
