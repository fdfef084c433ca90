/- GateStrangers: what it leads to in the given program; the tie of its tables. -/
import Derived.Test.YtcebbmappnbegaaGreatDoorRows
import Derived.Test.YtcebbmappnbegaaGreatDoorTieO
import Derived.Test.YtcebbmappnbegaaGreatDoorFactsYtceG
set_option linter.unusedSimpArgs false
set_option linter.unusedVariables false
set_option linter.unusedSectionVars false
set_option linter.unnecessarySimpa false
set_option maxRecDepth 100000
set_option maxHeartbeats 16000000
namespace Go.Proofs.YtcebbmappnbegaaGreatDoor
open Go
theorem gateStrangers_row_tie : Rows.gateStrangersRow.laidByTextAt .later Tryz.pinned [.pinned, .data, .sentinel, .sentinel, .data, .data, .data] true :=
  OpenClaim.laidByTextAt_pinned rfl rfl tie rfl rfl rfl rfl (fun y hy _e => by
    simp only [Rows.gateStrangersRow, List.zip_cons_cons, List.zip_nil_right, List.mem_cons, List.mem_nil_iff, or_false] at hy
    rcases hy with rfl | rfl | rfl | rfl | rfl | rfl | rfl
    · exact ⟨pin_laid_unicode_utf8_first, by kernel_rfl⟩
    · cases _e
    · cases _e
    · cases _e
    · cases _e
    · cases _e
    · cases _e) fits1
end Go.Proofs.YtcebbmappnbegaaGreatDoor
namespace Go.Proofs.YtcebbmappnbegaaGreatDoor.gateStrangers
open Go Go.Am Go.Proofs.YtcebbmappnbegaaGreatDoor.Facts
def CL : List Nat := [9, 18, 17, 50, 104, 191, 192, 190, 19, 55, 120, 232, 233, 167, 329, 234, 121, 122, 235, 123, 236, 124, 56, 125, 126, 25, 64, 65, 150, 267, 66, 67, 68, 149, 151, 268, 269, 152, 271, 214, 270, 153, 154, 273, 272, 69, 155, 70, 156, 71, 51, 106, 195, 237, 238, 239, 330, 327, 420, 394, 421, 514, 515, 583, 516, 510, 511, 517, 584, 585, 627, 518, 519, 520, 521, 331, 228, 328, 105, 194, 193, 212, 110, 211, 315, 405, 404, 508, 21, 57, 108, 202, 203, 204, 312, 403, 506, 507, 205, 206, 107, 196, 197, 198, 304, 305, 398, 399, 503, 502, 306, 307, 308, 309, 199, 310, 400, 364, 363, 402, 505, 554, 201, 200, 311, 401, 504, 279, 84, 170, 281, 109, 207, 208, 222, 325, 313, 209, 314, 210, 111, 148, 265, 355, 437, 438, 534, 439, 440, 535, 536, 590, 441, 442, 443, 444, 266, 357, 445, 356, 213, 112, 215, 216, 316, 406, 217, 317, 113, 218, 318, 407, 408, 319, 409, 320, 219, 321, 378, 485, 486, 221, 358, 446, 359, 447, 224, 225, 116, 166, 229, 280, 360, 276, 114, 220, 323, 322, 410, 324, 411, 115, 223, 226, 326, 412, 413, 509, 414, 415, 512, 513, 582, 416, 417, 418, 419, 227, 87, 36, 88, 74, 76, 52, 77, 158, 89, 30, 73, 75, 157, 81, 53, 117, 230, 78, 118, 231, 54, 119, 27, 20, 28, 72, 23, 60, 133, 132, 134, 59, 128, 240, 332, 422, 522, 423, 333, 336, 430, 383, 385, 386, 491, 388, 380, 487, 492, 577, 298, 392, 499, 624, 489, 488, 337, 424, 523, 586, 628, 425, 428, 527, 382, 490, 576, 334, 335, 426, 524, 529, 295, 525, 429, 528, 47, 97, 185, 49, 589, 630, 640, 579, 625, 626, 391, 495, 580, 496, 497, 188, 303, 187, 299, 300, 393, 395, 301, 302, 396, 397, 500, 501, 581, 498, 427, 526, 587, 588, 629, 241, 338, 129, 242, 339, 431, 131, 249, 248, 350, 127, 251, 250, 351, 130, 103, 243, 340, 100, 244, 341, 344, 432, 531, 530, 296, 384, 387, 389, 493, 578, 434, 494, 342, 343, 433, 532, 533, 245, 345, 346, 435, 246, 347, 348, 247, 63, 349, 61, 26, 135, 252, 138, 79, 137, 253, 260, 136, 144, 34, 38, 31, 139, 140, 254, 142, 32, 143, 141, 255, 256, 257, 258, 259, 145, 261, 35, 82, 159, 160, 162, 161, 274, 163, 83, 164, 85, 165, 275, 277, 168, 278, 169, 86, 171, 282, 361, 283, 284, 172, 285, 362, 286, 365, 448, 449, 459, 366, 450, 451, 537, 591, 538, 593, 592, 539, 545, 598, 547, 599, 594, 540, 595, 452, 541, 596, 542, 543, 453, 544, 546, 597, 454, 455, 456, 287, 367, 376, 476, 566, 479, 477, 567, 616, 637, 638, 478, 568, 617, 618, 457, 548, 573, 623, 481, 569, 619, 620, 639, 622, 600, 572, 484, 549, 550, 602, 601, 458, 368, 460, 551, 552, 603, 369, 461, 462, 553, 288, 370, 463, 289, 371, 464, 372, 465, 555, 373, 466, 556, 604, 631, 605, 467, 557, 606, 558, 607, 632, 641, 633, 634, 642, 643, 635, 608, 564, 559, 609, 636, 468, 560, 561, 562, 563, 610, 611, 612, 614, 613, 615, 374, 469, 470, 471, 565, 173, 290, 375, 472, 473, 474, 475, 291, 377, 480, 482, 483, 570, 571, 621, 574, 575, 292, 62, 37, 146, 80, 147, 262, 352, 263, 353, 264, 354, 436]
theorem clos : Tryz.prog.closure 9 = CL := closure_eq lx fuel (by as_aux_lemma => kernel_rfl)
theorem inPlaceE : ((["internal/bytealg.IndexByteString", "internal/bytealg.IndexString", "internal/abi.NoEscape"] : List String) == Tryz.prog.inPlace 9) = true := inPlace_eq lx clos (by as_aux_lemma => kernel_rfl)
theorem unfolE : Tryz.prog.unfollowed 9 = true := unfollowed_eq lx clos (by as_aux_lemma => kernel_rfl)
theorem unfolE2 : (true == Tryz.prog.unfollowed 9) = true := by rw [unfolE]; rfl
theorem recuE : (true == Tryz.prog.recurses 9) = true := by rw [recurses_of unfolE]; rfl
theorem namedE : ((["unicode/utf8.first", "unicode/utf8.acceptRanges", "internal/bytealg.MaxLen", "strconv.ErrSyntax", "strconv.ErrRange", "internal/strconv.uint64pow10", "math/bits.deBruijn32tab", "math/bits.deBruijn64tab"] : List String) == Tryz.prog.varsNamed 9) = true := varsNamed_eq lx clos (by as_aux_lemma => kernel_rfl)
theorem fnm : Tryz.prog.funcNamed "gatehouse/gatehouselaw27.GateStrangers" = some 9 := funcNamed_eq lx fsize (by as_aux_lemma => kernel_rfl)
end Go.Proofs.YtcebbmappnbegaaGreatDoor.gateStrangers
