/- ScriptForms: what it leads to in the given program; the tie of its tables. -/
import Derived.Test.YtcebbmappnbegaaGreatDoorRows
import Derived.Test.YtcebbmappnbegaaGreatDoorTieO
import Derived.Test.YtcebbmappnbegaaGreatDoorFactsYtceG
set_option linter.unusedSimpArgs false
set_option linter.unusedVariables false
set_option linter.unusedSectionVars false
set_option linter.unnecessarySimpa false
set_option maxRecDepth 100000
set_option maxHeartbeats 16000000
namespace Go.Proofs.YtcebbmappnbegaaGreatDoor
open Go
theorem scriptForms_row_tie : Rows.scriptFormsRow.laidByTextAt .later Tryz.pinned [.pinned, .data, .sentinel, .sentinel, .data, .data, .data] true :=
  OpenClaim.laidByTextAt_pinned rfl rfl tie rfl rfl rfl rfl (fun y hy _e => by
    simp only [Rows.scriptFormsRow, List.zip_cons_cons, List.zip_nil_right, List.mem_cons, List.mem_nil_iff, or_false] at hy
    rcases hy with rfl | rfl | rfl | rfl | rfl | rfl | rfl
    · exact ⟨pin_laid_unicode_utf8_first, by kernel_rfl⟩
    · cases _e
    · cases _e
    · cases _e
    · cases _e
    · cases _e
    · cases _e) fits1
end Go.Proofs.YtcebbmappnbegaaGreatDoor
namespace Go.Proofs.YtcebbmappnbegaaGreatDoor.scriptForms
open Go Go.Am Go.Proofs.YtcebbmappnbegaaGreatDoor.Facts
def CL : List Nat := [4, 15, 17, 50, 104, 191, 192, 190, 16, 19, 55, 120, 232, 233, 167, 329, 234, 121, 122, 235, 123, 236, 124, 56, 125, 126, 25, 64, 65, 150, 267, 66, 67, 68, 149, 151, 268, 269, 152, 271, 214, 270, 153, 154, 273, 272, 69, 155, 70, 156, 71, 46, 95, 182, 293, 379, 380, 487, 294, 381, 295, 382, 392, 499, 488, 489, 490, 576, 96, 183, 296, 384, 383, 385, 387, 491, 386, 389, 493, 578, 492, 577, 298, 624, 388, 297, 390, 494, 579, 625, 626, 391, 495, 580, 496, 497, 188, 303, 187, 299, 300, 394, 393, 395, 301, 302, 396, 397, 500, 501, 581, 498, 184, 48, 35, 82, 159, 160, 162, 161, 274, 163, 84, 83, 164, 85, 165, 276, 275, 277, 166, 21, 57, 168, 278, 221, 358, 446, 325, 359, 447, 279, 170, 281, 308, 169, 280, 360, 86, 171, 282, 361, 402, 505, 554, 283, 284, 172, 285, 362, 364, 363, 196, 286, 365, 448, 309, 449, 459, 399, 503, 502, 305, 398, 366, 450, 451, 237, 537, 591, 351, 538, 593, 592, 539, 545, 598, 250, 547, 599, 238, 594, 540, 595, 452, 541, 596, 507, 307, 542, 543, 453, 544, 546, 597, 454, 455, 456, 198, 304, 306, 199, 310, 400, 200, 311, 401, 504, 131, 249, 248, 350, 127, 239, 330, 327, 420, 421, 514, 515, 583, 516, 510, 511, 517, 584, 585, 627, 518, 519, 520, 521, 331, 228, 328, 251, 287, 367, 376, 476, 566, 479, 477, 567, 616, 637, 638, 478, 568, 617, 618, 409, 408, 457, 216, 316, 406, 548, 573, 623, 481, 569, 619, 620, 639, 622, 600, 572, 484, 549, 550, 602, 601, 317, 458, 218, 318, 407, 319, 320, 321, 378, 485, 486, 224, 225, 116, 229, 201, 113, 219, 368, 411, 324, 460, 551, 63, 148, 265, 355, 437, 438, 534, 439, 440, 535, 536, 590, 441, 442, 443, 444, 266, 357, 445, 356, 346, 435, 212, 552, 603, 369, 461, 462, 553, 288, 370, 463, 289, 371, 464, 372, 465, 555, 373, 466, 556, 604, 631, 605, 467, 557, 606, 558, 607, 632, 641, 508, 633, 634, 642, 643, 635, 608, 564, 559, 609, 636, 468, 560, 561, 562, 563, 610, 611, 612, 614, 613, 615, 374, 469, 345, 470, 471, 565, 173, 290, 375, 202, 204, 312, 403, 506, 472, 473, 203, 474, 475, 107, 197, 109, 193, 207, 110, 211, 315, 405, 404, 208, 222, 313, 209, 314, 210, 291, 377, 480, 482, 483, 570, 571, 621, 574, 575, 292, 87, 98, 47, 97, 185, 186, 49, 99, 51, 106, 195, 105, 194, 108, 205, 206, 111, 213, 112, 215, 217, 114, 220, 323, 322, 410, 115, 223, 226, 326, 412, 413, 509, 414, 415, 512, 513, 582, 416, 417, 418, 419, 227, 27, 100, 101, 24, 103, 102, 22, 58, 189]
theorem clos : Tryz.prog.closure 4 = CL := closure_eq lx fuel (by as_aux_lemma => kernel_rfl)
theorem inPlaceE : ((["internal/bytealg.CountString", "internal/bytealg.IndexByteString", "internal/bytealg.IndexString", "internal/abi.NoEscape"] : List String) == Tryz.prog.inPlace 4) = true := inPlace_eq lx clos (by as_aux_lemma => kernel_rfl)
theorem unfolE : Tryz.prog.unfollowed 4 = true := unfollowed_eq lx clos (by as_aux_lemma => kernel_rfl)
theorem unfolE2 : (true == Tryz.prog.unfollowed 4) = true := by rw [unfolE]; rfl
theorem recuE : (true == Tryz.prog.recurses 4) = true := by rw [recurses_of unfolE]; rfl
theorem namedE : ((["unicode/utf8.first", "unicode/utf8.acceptRanges", "internal/bytealg.MaxLen", "strconv.ErrSyntax", "strconv.ErrRange", "internal/strconv.uint64pow10", "math/bits.deBruijn32tab", "math/bits.deBruijn64tab"] : List String) == Tryz.prog.varsNamed 4) = true := varsNamed_eq lx clos (by as_aux_lemma => kernel_rfl)
theorem fnm : Tryz.prog.funcNamed "gatehouse/gatehouselaw28.ScriptForms" = some 4 := funcNamed_eq lx fsize (by as_aux_lemma => kernel_rfl)
end Go.Proofs.YtcebbmappnbegaaGreatDoor.scriptForms
