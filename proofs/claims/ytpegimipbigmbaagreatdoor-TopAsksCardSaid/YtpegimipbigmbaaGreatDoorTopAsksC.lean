/- TopAsks: what it leads to in the given program; the tie of its tables. -/
import Derived.Test.YtpegimipbigmbaaGreatDoorRows
import Derived.Test.YtpegimipbigmbaaGreatDoorTieA
import Derived.Test.YtpegimipbigmbaaGreatDoorFactsYtpeG
set_option linter.unusedSimpArgs false
set_option linter.unusedVariables false
set_option linter.unusedSectionVars false
set_option linter.unnecessarySimpa false
set_option maxRecDepth 100000
set_option maxHeartbeats 16000000
namespace Go.Proofs.YtpegimipbigmbaaGreatDoor
open Go
theorem topAsks_row_tie : Rows.topAsksRow.laidByTextAt .later Tryz.pinned [.pinned, .data, .sentinel, .sentinel, .data, .data, .data] true :=
 OpenClaim.laidByTextAt_pinned rfl rfl tie rfl rfl rfl rfl (fun y hy _e => by
  simp only [Rows.topAsksRow, List.zip_cons_cons, List.zip_nil_right, List.mem_cons, List.mem_nil_iff, or_false] at hy
  rcases hy with rfl | rfl | rfl | rfl | rfl | rfl | rfl
  ·exact ⟨pin_laid_unicode_utf8_first, by kernel_rfl⟩
  ·cases _e
  ·cases _e
  ·cases _e
  ·cases _e
  ·cases _e
  ·cases _e) fits1
end Go.Proofs.YtpegimipbigmbaaGreatDoor
namespace Go.Proofs.YtpegimipbigmbaaGreatDoor.topAsks
open Go Go.Am Go.Proofs.YtpegimipbigmbaaGreatDoor.Facts
def CL : List Nat := [3, 4, 12, 35, 111, 155, 225, 224, 11, 30, 99, 207, 305, 306, 197, 386, 307, 208, 209, 308, 210, 309, 211, 100, 212, 213, 25, 64, 65, 172, 281, 66, 67, 68, 136, 173, 282, 283, 174, 285, 140, 284, 175, 176, 286, 244, 69, 177, 70, 178, 71, 31, 101, 214, 310, 387, 388, 481, 311, 389, 312, 390, 400, 492, 482, 483, 484, 551, 102, 215, 313, 392, 391, 393, 395, 485, 394, 397, 487, 553, 486, 552, 315, 598, 396, 314, 398, 441, 512, 563, 564, 399, 488, 554, 489, 490, 221, 320, 219, 316, 317, 353, 401, 402, 318, 319, 403, 404, 493, 494, 555, 491, 216, 33, 27, 89, 190, 191, 193, 192, 287, 194, 91, 90, 195, 92, 196, 289, 288, 290, 156, 29, 98, 198, 291, 147, 369, 442, 254, 370, 443, 237, 157, 258, 233, 199, 259, 354, 93, 200, 292, 371, 330, 409, 503, 293, 294, 201, 295, 372, 328, 327, 120, 296, 373, 444, 234, 445, 455, 325, 407, 406, 230, 324, 374, 446, 447, 226, 513, 565, 280, 514, 567, 566, 515, 521, 572, 169, 523, 573, 227, 568, 516, 569, 448, 517, 570, 411, 232, 518, 519, 449, 520, 522, 571, 450, 451, 452, 122, 229, 231, 123, 235, 326, 124, 236, 329, 408, 60, 168, 167, 279, 170, 228, 322, 256, 352, 405, 495, 496, 556, 497, 425, 426, 498, 557, 558, 599, 499, 500, 501, 502, 323, 154, 257, 171, 297, 375, 384, 472, 541, 475, 473, 542, 590, 607, 608, 474, 543, 591, 592, 340, 339, 453, 142, 245, 337, 524, 548, 597, 477, 544, 593, 594, 609, 596, 574, 547, 480, 525, 526, 576, 575, 246, 454, 144, 247, 338, 248, 249, 250, 341, 422, 423, 150, 151, 55, 158, 125, 52, 145, 376, 343, 253, 456, 527, 277, 137, 242, 334, 413, 414, 504, 415, 416, 505, 506, 559, 417, 418, 419, 420, 243, 336, 421, 335, 274, 368, 138, 528, 577, 377, 457, 458, 529, 298, 378, 459, 299, 379, 460, 380, 461, 530, 381, 462, 531, 578, 601, 579, 463, 532, 580, 533, 581, 602, 610, 412, 603, 604, 611, 612, 605, 582, 539, 534, 583, 606, 464, 535, 536, 537, 538, 584, 585, 586, 588, 587, 589, 382, 465, 273, 466, 467, 540, 202, 300, 383, 126, 128, 238, 331, 410, 468, 469, 127, 470, 471, 46, 121, 48, 117, 131, 49, 135, 241, 333, 332, 132, 148, 239, 133, 240, 134, 301, 385, 476, 478, 479, 545, 546, 595, 549, 550, 302, 56, 104, 32, 103, 217, 218, 34, 105, 22, 45, 119, 44, 118, 47, 129, 130, 50, 139, 51, 141, 143, 53, 146, 252, 251, 342, 54, 149, 152, 255, 344, 345, 424, 346, 347, 427, 428, 507, 348, 349, 350, 351, 153, 107, 106, 108, 220, 110, 109, 222, 321, 223, 5, 13, 36, 10, 24, 62, 61, 63, 23, 57, 159, 260, 355, 429, 356, 261, 264, 363, 265, 357, 430, 508, 560, 358, 361, 434, 262, 263, 359, 431, 436, 432, 362, 435, 511, 562, 600, 360, 433, 509, 510, 561, 160, 266, 58, 161, 267, 364, 59, 162, 268, 163, 269, 272, 365, 438, 437, 367, 270, 271, 366, 439, 440, 164, 165, 275, 276, 166, 278, 26, 72, 73, 77, 181, 179, 78, 83, 75, 76, 180, 188, 17, 40, 18, 39, 114, 74, 87, 96, 79, 81, 80, 82, 8, 15, 16, 182, 205, 85, 183, 86, 84, 184, 185, 186, 116, 187, 88, 38, 113, 189, 28, 37, 112, 94, 95, 203, 97, 204, 303, 206, 304, 9, 19, 41, 20, 42, 21, 43, 115, 7, 6, 14]
theorem clos : Tryz.prog.closure 3 = CL := closure_eq lx fuel (by as_aux_lemma => kernel_rfl)
theorem inPlaceE : ((["internal/bytealg.CountString", "internal/bytealg.IndexByteString", "internal/bytealg.IndexString", "internal/abi.NoEscape"] : List String) == Tryz.prog.inPlace 3) = true := inPlace_eq lx clos (by as_aux_lemma => kernel_rfl)
theorem unfolE : Tryz.prog.unfollowed 3 = true := unfollowed_eq lx clos (by as_aux_lemma => kernel_rfl)
theorem unfolE2 : (true == Tryz.prog.unfollowed 3) = true := by rw [unfolE]; rfl
theorem recuE : (true == Tryz.prog.recurses 3) = true := by rw [recurses_of unfolE]; rfl
theorem namedE : ((["unicode/utf8.first", "unicode/utf8.acceptRanges", "internal/bytealg.MaxLen", "strconv.ErrSyntax", "strconv.ErrRange", "internal/strconv.uint64pow10", "math/bits.deBruijn32tab", "math/bits.deBruijn64tab"] : List String) == Tryz.prog.varsNamed 3) = true := varsNamed_eq lx clos (by as_aux_lemma => kernel_rfl)
theorem fnm : Tryz.prog.funcNamed "gatehouse/gatehousetop.TopAsks" = some 3 := funcNamed_eq lx fsize (by as_aux_lemma => kernel_rfl)
end Go.Proofs.YtpegimipbigmbaaGreatDoor.topAsks
