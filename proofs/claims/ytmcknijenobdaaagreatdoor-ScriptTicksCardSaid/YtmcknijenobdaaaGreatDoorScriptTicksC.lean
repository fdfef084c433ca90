/- ScriptTicks: what it leads to in the given program; the tie of its tables. -/
import Derived.Test.YtmcknijenobdaaaGreatDoorRows
import Derived.Test.YtmcknijenobdaaaGreatDoorTieQ
import Derived.Test.YtmcknijenobdaaaGreatDoorFactsYtmcG
set_option linter.unusedSimpArgs false
set_option linter.unusedVariables false
set_option linter.unusedSectionVars false
set_option linter.unnecessarySimpa false
set_option maxRecDepth 100000
set_option maxHeartbeats 16000000
namespace Go.Proofs.YtmcknijenobdaaaGreatDoor
open Go
theorem scriptTicks_row_tie : Rows.scriptTicksRow.laidByTextAt .later Tryz.pinned [.data, .data, .data, .data, .sentinel, .sentinel, .pinned] true :=
  OpenClaim.laidByTextAt_pinned rfl rfl tie rfl rfl rfl rfl (fun y hy _e => by
    simp only [Rows.scriptTicksRow, List.zip_cons_cons, List.zip_nil_right, List.mem_cons, List.mem_nil_iff, or_false] at hy
    rcases hy with rfl | rfl | rfl | rfl | rfl | rfl | rfl
    · cases _e
    · cases _e
    · cases _e
    · cases _e
    · cases _e
    · cases _e
    · exact ⟨pin_laid_unicode_utf8_first, by kernel_rfl⟩) fits1
end Go.Proofs.YtmcknijenobdaaaGreatDoor
namespace Go.Proofs.YtmcknijenobdaaaGreatDoor.scriptTicks
open Go Go.Am Go.Proofs.YtmcknijenobdaaaGreatDoor.Facts
def CL : List Nat := [3, 4, 6, 13, 29, 64, 65, 63, 5, 8, 14, 30, 66, 67, 93, 119, 68, 31, 32, 69, 33, 70, 34, 15, 35, 36, 16, 37, 38, 71, 120, 39, 40, 41, 72, 73, 121, 122, 74, 124, 125, 123, 75, 76, 127, 126, 42, 77, 43, 78, 44, 9, 17, 45, 79, 128, 129, 205, 80, 130, 81, 131, 141, 217, 206, 207, 208, 275, 18, 46, 82, 133, 132, 134, 136, 209, 135, 138, 211, 277, 210, 276, 84, 352, 137, 83, 139, 212, 278, 353, 354, 140, 213, 279, 214, 215, 59, 117, 57, 112, 113, 200, 199, 201, 114, 115, 202, 203, 273, 274, 280, 216, 47, 11, 21, 50, 85, 86, 88, 87, 142, 89, 52, 51, 90, 53, 91, 144, 143, 145, 92, 27, 62, 94, 146, 190, 218, 281, 269, 219, 282, 147, 96, 149, 221, 95, 148, 220, 54, 97, 150, 222, 283, 355, 373, 151, 152, 98, 153, 223, 225, 224, 154, 155, 226, 284, 253, 285, 297, 330, 399, 398, 250, 329, 227, 286, 287, 246, 356, 417, 294, 357, 419, 418, 358, 364, 424, 230, 366, 425, 247, 420, 359, 421, 288, 360, 422, 401, 252, 361, 362, 289, 363, 365, 423, 290, 291, 292, 167, 249, 251, 168, 254, 331, 169, 244, 324, 396, 156, 229, 228, 293, 204, 248, 327, 271, 351, 397, 451, 452, 473, 453, 413, 414, 454, 474, 475, 480, 455, 456, 457, 458, 328, 197, 272, 231, 157, 232, 242, 315, 386, 318, 316, 387, 443, 470, 471, 317, 388, 444, 445, 341, 340, 295, 185, 261, 338, 367, 393, 450, 320, 389, 446, 447, 472, 449, 426, 392, 323, 368, 369, 428, 427, 262, 296, 187, 263, 339, 264, 265, 238, 245, 325, 326, 193, 194, 111, 198, 170, 108, 188, 233, 298, 268, 299, 370, 116, 181, 259, 335, 403, 404, 459, 405, 406, 460, 461, 476, 407, 408, 409, 410, 260, 337, 411, 336, 429, 463, 182, 371, 430, 234, 300, 301, 372, 158, 235, 302, 159, 236, 303, 237, 304, 374, 239, 305, 375, 431, 464, 432, 306, 376, 433, 377, 434, 465, 477, 402, 466, 467, 478, 479, 468, 435, 384, 378, 436, 469, 307, 379, 380, 381, 382, 437, 438, 439, 441, 440, 442, 240, 308, 383, 309, 310, 385, 99, 160, 241, 171, 173, 255, 332, 400, 311, 312, 172, 313, 314, 102, 166, 104, 163, 176, 105, 180, 258, 334, 333, 177, 191, 256, 178, 257, 179, 161, 243, 319, 321, 322, 390, 391, 448, 394, 395, 162, 55, 20, 10, 19, 48, 49, 12, 22, 56, 101, 165, 100, 164, 103, 174, 175, 106, 183, 107, 184, 186, 109, 189, 267, 266, 342, 110, 192, 195, 270, 343, 344, 412, 345, 346, 415, 416, 462, 347, 348, 349, 350, 196, 24, 23, 25, 58, 28, 26, 60, 118, 61, 7]
theorem clos : Tryz.prog.closure 3 = CL := closure_eq lx fuel (by as_aux_lemma => kernel_rfl)
theorem inPlaceE : ((["internal/bytealg.CountString", "internal/bytealg.IndexByteString", "internal/bytealg.IndexString", "internal/abi.NoEscape"] : List String) == Tryz.prog.inPlace 3) = true := inPlace_eq lx clos (by as_aux_lemma => kernel_rfl)
theorem unfolE : Tryz.prog.unfollowed 3 = true := unfollowed_eq lx clos (by as_aux_lemma => kernel_rfl)
theorem unfolE2 : (true == Tryz.prog.unfollowed 3) = true := by rw [unfolE]; rfl
theorem recuE : (true == Tryz.prog.recurses 3) = true := by rw [recurses_of unfolE]; rfl
theorem namedE : ((["unicode/utf8.first", "unicode/utf8.acceptRanges", "internal/bytealg.MaxLen", "strconv.ErrSyntax", "strconv.ErrRange", "internal/strconv.uint64pow10", "math/bits.deBruijn32tab", "math/bits.deBruijn64tab"] : List String) == Tryz.prog.varsNamed 3) = true := varsNamed_eq lx clos (by as_aux_lemma => kernel_rfl)
theorem fnm : Tryz.prog.funcNamed "gatehouse/gatehouselaw28.ScriptTicks" = some 3 := funcNamed_eq lx fsize (by as_aux_lemma => kernel_rfl)
end Go.Proofs.YtmcknijenobdaaaGreatDoor.scriptTicks
