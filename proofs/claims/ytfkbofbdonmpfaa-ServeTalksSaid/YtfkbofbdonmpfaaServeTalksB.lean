/- ServeTalks: its run, out of its rounds. -/
import Derived.Test.YtfkbofbdonmpfaaServeTalksR0
import Derived.Test.YtfkbofbdonmpfaaServeTalksR1
import Derived.Test.YtfkbofbdonmpfaaServeTalksR2
import Derived.Test.YtfkbofbdonmpfaaServeTalksR3
set_option linter.unusedSimpArgs false
set_option linter.unusedVariables false
set_option linter.unusedSectionVars false
set_option linter.unnecessarySimpa false
set_option maxRecDepth 100000
namespace Go.Proofs.Ytfkbofbdonmpfaa.serveTalks
open Go.Am
theorem go0 (a b : Int) (h1 : 0 ≤ a) (h2 : a ≤ 50) (h3 : 0 ≤ b) (h4 : b ≤ 10000) (kk : List Int) (F : FF a b kk [.s C16, .l C16 99999, .b 0, .s C12] st1) : FF a b kk [.s C0] st0 := pre a b h1 h2 h3 h4 kk F
theorem go1 (a b : Int) (h1 : 0 ≤ a) (h2 : a ≤ 50) (h3 : 0 ≤ b) (h4 : b ≤ 10000) (h5 : 0 < a) (kk : List Int) (F : FF a b kk [.s C16, .l C16 99998, .b 0, .s C12] st2) : FF a b kk [.s C0] st0 := go0 a b h1 h2 h3 h4 kk (step0 a b h1 h2 h3 h4 h5 kk F)
theorem go2 (a b : Int) (h1 : 0 ≤ a) (h2 : a ≤ 50) (h3 : 0 ≤ b) (h4 : b ≤ 10000) (h5 : 1 < a) (kk : List Int) (F : FF a b kk [.s C16, .l C16 99997, .b 0, .s C12] st3) : FF a b kk [.s C0] st0 := go1 a b h1 h2 h3 h4 (show 0 < a by omega) kk (step1 a b h1 h2 h3 h4 h5 kk F)
theorem go3 (a b : Int) (h1 : 0 ≤ a) (h2 : a ≤ 50) (h3 : 0 ≤ b) (h4 : b ≤ 10000) (h5 : 2 < a) (kk : List Int) (F : FF a b kk [.s C16, .l C16 99996, .b 0, .s C12] st4) : FF a b kk [.s C0] st0 := go2 a b h1 h2 h3 h4 (show 1 < a by omega) kk (step2 a b h1 h2 h3 h4 h5 kk F)
theorem go4 (a b : Int) (h1 : 0 ≤ a) (h2 : a ≤ 50) (h3 : 0 ≤ b) (h4 : b ≤ 10000) (h5 : 3 < a) (kk : List Int) (F : FF a b kk [.s C16, .l C16 99995, .b 0, .s C12] st5) : FF a b kk [.s C0] st0 := go3 a b h1 h2 h3 h4 (show 2 < a by omega) kk (step3 a b h1 h2 h3 h4 h5 kk F)
theorem go5 (a b : Int) (h1 : 0 ≤ a) (h2 : a ≤ 50) (h3 : 0 ≤ b) (h4 : b ≤ 10000) (h5 : 4 < a) (kk : List Int) (F : FF a b kk [.s C16, .l C16 99994, .b 0, .s C12] st6) : FF a b kk [.s C0] st0 := go4 a b h1 h2 h3 h4 (show 3 < a by omega) kk (step4 a b h1 h2 h3 h4 h5 kk F)
theorem go6 (a b : Int) (h1 : 0 ≤ a) (h2 : a ≤ 50) (h3 : 0 ≤ b) (h4 : b ≤ 10000) (h5 : 5 < a) (kk : List Int) (F : FF a b kk [.s C16, .l C16 99993, .b 0, .s C12] st7) : FF a b kk [.s C0] st0 := go5 a b h1 h2 h3 h4 (show 4 < a by omega) kk (step5 a b h1 h2 h3 h4 h5 kk F)
theorem go7 (a b : Int) (h1 : 0 ≤ a) (h2 : a ≤ 50) (h3 : 0 ≤ b) (h4 : b ≤ 10000) (h5 : 6 < a) (kk : List Int) (F : FF a b kk [.s C16, .l C16 99992, .b 0, .s C12] st8) : FF a b kk [.s C0] st0 := go6 a b h1 h2 h3 h4 (show 5 < a by omega) kk (step6 a b h1 h2 h3 h4 h5 kk F)
theorem go8 (a b : Int) (h1 : 0 ≤ a) (h2 : a ≤ 50) (h3 : 0 ≤ b) (h4 : b ≤ 10000) (h5 : 7 < a) (kk : List Int) (F : FF a b kk [.s C16, .l C16 99991, .b 0, .s C12] st9) : FF a b kk [.s C0] st0 := go7 a b h1 h2 h3 h4 (show 6 < a by omega) kk (step7 a b h1 h2 h3 h4 h5 kk F)
theorem go9 (a b : Int) (h1 : 0 ≤ a) (h2 : a ≤ 50) (h3 : 0 ≤ b) (h4 : b ≤ 10000) (h5 : 8 < a) (kk : List Int) (F : FF a b kk [.s C16, .l C16 99990, .b 0, .s C12] st10) : FF a b kk [.s C0] st0 := go8 a b h1 h2 h3 h4 (show 7 < a by omega) kk (step8 a b h1 h2 h3 h4 h5 kk F)
theorem go10 (a b : Int) (h1 : 0 ≤ a) (h2 : a ≤ 50) (h3 : 0 ≤ b) (h4 : b ≤ 10000) (h5 : 9 < a) (kk : List Int) (F : FF a b kk [.s C16, .l C16 99989, .b 0, .s C12] st11) : FF a b kk [.s C0] st0 := go9 a b h1 h2 h3 h4 (show 8 < a by omega) kk (step9 a b h1 h2 h3 h4 h5 kk F)
theorem go11 (a b : Int) (h1 : 0 ≤ a) (h2 : a ≤ 50) (h3 : 0 ≤ b) (h4 : b ≤ 10000) (h5 : 10 < a) (kk : List Int) (F : FF a b kk [.s C16, .l C16 99988, .b 0, .s C12] st12) : FF a b kk [.s C0] st0 := go10 a b h1 h2 h3 h4 (show 9 < a by omega) kk (step10 a b h1 h2 h3 h4 h5 kk F)
theorem go12 (a b : Int) (h1 : 0 ≤ a) (h2 : a ≤ 50) (h3 : 0 ≤ b) (h4 : b ≤ 10000) (h5 : 11 < a) (kk : List Int) (F : FF a b kk [.s C16, .l C16 99987, .b 0, .s C12] st13) : FF a b kk [.s C0] st0 := go11 a b h1 h2 h3 h4 (show 10 < a by omega) kk (step11 a b h1 h2 h3 h4 h5 kk F)
theorem go13 (a b : Int) (h1 : 0 ≤ a) (h2 : a ≤ 50) (h3 : 0 ≤ b) (h4 : b ≤ 10000) (h5 : 12 < a) (kk : List Int) (F : FF a b kk [.s C16, .l C16 99986, .b 0, .s C12] st14) : FF a b kk [.s C0] st0 := go12 a b h1 h2 h3 h4 (show 11 < a by omega) kk (step12 a b h1 h2 h3 h4 h5 kk F)
theorem go14 (a b : Int) (h1 : 0 ≤ a) (h2 : a ≤ 50) (h3 : 0 ≤ b) (h4 : b ≤ 10000) (h5 : 13 < a) (kk : List Int) (F : FF a b kk [.s C16, .l C16 99985, .b 0, .s C12] st15) : FF a b kk [.s C0] st0 := go13 a b h1 h2 h3 h4 (show 12 < a by omega) kk (step13 a b h1 h2 h3 h4 h5 kk F)
theorem go15 (a b : Int) (h1 : 0 ≤ a) (h2 : a ≤ 50) (h3 : 0 ≤ b) (h4 : b ≤ 10000) (h5 : 14 < a) (kk : List Int) (F : FF a b kk [.s C16, .l C16 99984, .b 0, .s C12] st16) : FF a b kk [.s C0] st0 := go14 a b h1 h2 h3 h4 (show 13 < a by omega) kk (step14 a b h1 h2 h3 h4 h5 kk F)
theorem go16 (a b : Int) (h1 : 0 ≤ a) (h2 : a ≤ 50) (h3 : 0 ≤ b) (h4 : b ≤ 10000) (h5 : 15 < a) (kk : List Int) (F : FF a b kk [.s C16, .l C16 99983, .b 0, .s C12] st17) : FF a b kk [.s C0] st0 := go15 a b h1 h2 h3 h4 (show 14 < a by omega) kk (step15 a b h1 h2 h3 h4 h5 kk F)
theorem go17 (a b : Int) (h1 : 0 ≤ a) (h2 : a ≤ 50) (h3 : 0 ≤ b) (h4 : b ≤ 10000) (h5 : 16 < a) (kk : List Int) (F : FF a b kk [.s C16, .l C16 99982, .b 0, .s C12] st18) : FF a b kk [.s C0] st0 := go16 a b h1 h2 h3 h4 (show 15 < a by omega) kk (step16 a b h1 h2 h3 h4 h5 kk F)
theorem go18 (a b : Int) (h1 : 0 ≤ a) (h2 : a ≤ 50) (h3 : 0 ≤ b) (h4 : b ≤ 10000) (h5 : 17 < a) (kk : List Int) (F : FF a b kk [.s C16, .l C16 99981, .b 0, .s C12] st19) : FF a b kk [.s C0] st0 := go17 a b h1 h2 h3 h4 (show 16 < a by omega) kk (step17 a b h1 h2 h3 h4 h5 kk F)
theorem go19 (a b : Int) (h1 : 0 ≤ a) (h2 : a ≤ 50) (h3 : 0 ≤ b) (h4 : b ≤ 10000) (h5 : 18 < a) (kk : List Int) (F : FF a b kk [.s C16, .l C16 99980, .b 0, .s C12] st20) : FF a b kk [.s C0] st0 := go18 a b h1 h2 h3 h4 (show 17 < a by omega) kk (step18 a b h1 h2 h3 h4 h5 kk F)
theorem go20 (a b : Int) (h1 : 0 ≤ a) (h2 : a ≤ 50) (h3 : 0 ≤ b) (h4 : b ≤ 10000) (h5 : 19 < a) (kk : List Int) (F : FF a b kk [.s C16, .l C16 99979, .b 0, .s C12] st21) : FF a b kk [.s C0] st0 := go19 a b h1 h2 h3 h4 (show 18 < a by omega) kk (step19 a b h1 h2 h3 h4 h5 kk F)
theorem go21 (a b : Int) (h1 : 0 ≤ a) (h2 : a ≤ 50) (h3 : 0 ≤ b) (h4 : b ≤ 10000) (h5 : 20 < a) (kk : List Int) (F : FF a b kk [.s C16, .l C16 99978, .b 0, .s C12] st22) : FF a b kk [.s C0] st0 := go20 a b h1 h2 h3 h4 (show 19 < a by omega) kk (step20 a b h1 h2 h3 h4 h5 kk F)
theorem go22 (a b : Int) (h1 : 0 ≤ a) (h2 : a ≤ 50) (h3 : 0 ≤ b) (h4 : b ≤ 10000) (h5 : 21 < a) (kk : List Int) (F : FF a b kk [.s C16, .l C16 99977, .b 0, .s C12] st23) : FF a b kk [.s C0] st0 := go21 a b h1 h2 h3 h4 (show 20 < a by omega) kk (step21 a b h1 h2 h3 h4 h5 kk F)
theorem go23 (a b : Int) (h1 : 0 ≤ a) (h2 : a ≤ 50) (h3 : 0 ≤ b) (h4 : b ≤ 10000) (h5 : 22 < a) (kk : List Int) (F : FF a b kk [.s C16, .l C16 99976, .b 0, .s C12] st24) : FF a b kk [.s C0] st0 := go22 a b h1 h2 h3 h4 (show 21 < a by omega) kk (step22 a b h1 h2 h3 h4 h5 kk F)
theorem go24 (a b : Int) (h1 : 0 ≤ a) (h2 : a ≤ 50) (h3 : 0 ≤ b) (h4 : b ≤ 10000) (h5 : 23 < a) (kk : List Int) (F : FF a b kk [.s C16, .l C16 99975, .b 0, .s C12] st25) : FF a b kk [.s C0] st0 := go23 a b h1 h2 h3 h4 (show 22 < a by omega) kk (step23 a b h1 h2 h3 h4 h5 kk F)
theorem go25 (a b : Int) (h1 : 0 ≤ a) (h2 : a ≤ 50) (h3 : 0 ≤ b) (h4 : b ≤ 10000) (h5 : 24 < a) (kk : List Int) (F : FF a b kk [.s C16, .l C16 99974, .b 0, .s C12] st26) : FF a b kk [.s C0] st0 := go24 a b h1 h2 h3 h4 (show 23 < a by omega) kk (step24 a b h1 h2 h3 h4 h5 kk F)
theorem go26 (a b : Int) (h1 : 0 ≤ a) (h2 : a ≤ 50) (h3 : 0 ≤ b) (h4 : b ≤ 10000) (h5 : 25 < a) (kk : List Int) (F : FF a b kk [.s C16, .l C16 99973, .b 0, .s C12] st27) : FF a b kk [.s C0] st0 := go25 a b h1 h2 h3 h4 (show 24 < a by omega) kk (step25 a b h1 h2 h3 h4 h5 kk F)
theorem go27 (a b : Int) (h1 : 0 ≤ a) (h2 : a ≤ 50) (h3 : 0 ≤ b) (h4 : b ≤ 10000) (h5 : 26 < a) (kk : List Int) (F : FF a b kk [.s C16, .l C16 99972, .b 0, .s C12] st28) : FF a b kk [.s C0] st0 := go26 a b h1 h2 h3 h4 (show 25 < a by omega) kk (step26 a b h1 h2 h3 h4 h5 kk F)
theorem go28 (a b : Int) (h1 : 0 ≤ a) (h2 : a ≤ 50) (h3 : 0 ≤ b) (h4 : b ≤ 10000) (h5 : 27 < a) (kk : List Int) (F : FF a b kk [.s C16, .l C16 99971, .b 0, .s C12] st29) : FF a b kk [.s C0] st0 := go27 a b h1 h2 h3 h4 (show 26 < a by omega) kk (step27 a b h1 h2 h3 h4 h5 kk F)
theorem go29 (a b : Int) (h1 : 0 ≤ a) (h2 : a ≤ 50) (h3 : 0 ≤ b) (h4 : b ≤ 10000) (h5 : 28 < a) (kk : List Int) (F : FF a b kk [.s C16, .l C16 99970, .b 0, .s C12] st30) : FF a b kk [.s C0] st0 := go28 a b h1 h2 h3 h4 (show 27 < a by omega) kk (step28 a b h1 h2 h3 h4 h5 kk F)
theorem go30 (a b : Int) (h1 : 0 ≤ a) (h2 : a ≤ 50) (h3 : 0 ≤ b) (h4 : b ≤ 10000) (h5 : 29 < a) (kk : List Int) (F : FF a b kk [.s C16, .l C16 99969, .b 0, .s C12] st31) : FF a b kk [.s C0] st0 := go29 a b h1 h2 h3 h4 (show 28 < a by omega) kk (step29 a b h1 h2 h3 h4 h5 kk F)
theorem go31 (a b : Int) (h1 : 0 ≤ a) (h2 : a ≤ 50) (h3 : 0 ≤ b) (h4 : b ≤ 10000) (h5 : 30 < a) (kk : List Int) (F : FF a b kk [.s C16, .l C16 99968, .b 0, .s C12] st32) : FF a b kk [.s C0] st0 := go30 a b h1 h2 h3 h4 (show 29 < a by omega) kk (step30 a b h1 h2 h3 h4 h5 kk F)
theorem go32 (a b : Int) (h1 : 0 ≤ a) (h2 : a ≤ 50) (h3 : 0 ≤ b) (h4 : b ≤ 10000) (h5 : 31 < a) (kk : List Int) (F : FF a b kk [.s C16, .l C16 99967, .b 0, .s C12] st33) : FF a b kk [.s C0] st0 := go31 a b h1 h2 h3 h4 (show 30 < a by omega) kk (step31 a b h1 h2 h3 h4 h5 kk F)
theorem go33 (a b : Int) (h1 : 0 ≤ a) (h2 : a ≤ 50) (h3 : 0 ≤ b) (h4 : b ≤ 10000) (h5 : 32 < a) (kk : List Int) (F : FF a b kk [.s C16, .l C16 99966, .b 0, .s C12] st34) : FF a b kk [.s C0] st0 := go32 a b h1 h2 h3 h4 (show 31 < a by omega) kk (step32 a b h1 h2 h3 h4 h5 kk F)
theorem go34 (a b : Int) (h1 : 0 ≤ a) (h2 : a ≤ 50) (h3 : 0 ≤ b) (h4 : b ≤ 10000) (h5 : 33 < a) (kk : List Int) (F : FF a b kk [.s C16, .l C16 99965, .b 0, .s C12] st35) : FF a b kk [.s C0] st0 := go33 a b h1 h2 h3 h4 (show 32 < a by omega) kk (step33 a b h1 h2 h3 h4 h5 kk F)
theorem go35 (a b : Int) (h1 : 0 ≤ a) (h2 : a ≤ 50) (h3 : 0 ≤ b) (h4 : b ≤ 10000) (h5 : 34 < a) (kk : List Int) (F : FF a b kk [.s C16, .l C16 99964, .b 0, .s C12] st36) : FF a b kk [.s C0] st0 := go34 a b h1 h2 h3 h4 (show 33 < a by omega) kk (step34 a b h1 h2 h3 h4 h5 kk F)
theorem go36 (a b : Int) (h1 : 0 ≤ a) (h2 : a ≤ 50) (h3 : 0 ≤ b) (h4 : b ≤ 10000) (h5 : 35 < a) (kk : List Int) (F : FF a b kk [.s C16, .l C16 99963, .b 0, .s C12] st37) : FF a b kk [.s C0] st0 := go35 a b h1 h2 h3 h4 (show 34 < a by omega) kk (step35 a b h1 h2 h3 h4 h5 kk F)
theorem go37 (a b : Int) (h1 : 0 ≤ a) (h2 : a ≤ 50) (h3 : 0 ≤ b) (h4 : b ≤ 10000) (h5 : 36 < a) (kk : List Int) (F : FF a b kk [.s C16, .l C16 99962, .b 0, .s C12] st38) : FF a b kk [.s C0] st0 := go36 a b h1 h2 h3 h4 (show 35 < a by omega) kk (step36 a b h1 h2 h3 h4 h5 kk F)
theorem go38 (a b : Int) (h1 : 0 ≤ a) (h2 : a ≤ 50) (h3 : 0 ≤ b) (h4 : b ≤ 10000) (h5 : 37 < a) (kk : List Int) (F : FF a b kk [.s C16, .l C16 99961, .b 0, .s C12] st39) : FF a b kk [.s C0] st0 := go37 a b h1 h2 h3 h4 (show 36 < a by omega) kk (step37 a b h1 h2 h3 h4 h5 kk F)
theorem go39 (a b : Int) (h1 : 0 ≤ a) (h2 : a ≤ 50) (h3 : 0 ≤ b) (h4 : b ≤ 10000) (h5 : 38 < a) (kk : List Int) (F : FF a b kk [.s C16, .l C16 99960, .b 0, .s C12] st40) : FF a b kk [.s C0] st0 := go38 a b h1 h2 h3 h4 (show 37 < a by omega) kk (step38 a b h1 h2 h3 h4 h5 kk F)
theorem go40 (a b : Int) (h1 : 0 ≤ a) (h2 : a ≤ 50) (h3 : 0 ≤ b) (h4 : b ≤ 10000) (h5 : 39 < a) (kk : List Int) (F : FF a b kk [.s C16, .l C16 99959, .b 0, .s C12] st41) : FF a b kk [.s C0] st0 := go39 a b h1 h2 h3 h4 (show 38 < a by omega) kk (step39 a b h1 h2 h3 h4 h5 kk F)
theorem go41 (a b : Int) (h1 : 0 ≤ a) (h2 : a ≤ 50) (h3 : 0 ≤ b) (h4 : b ≤ 10000) (h5 : 40 < a) (kk : List Int) (F : FF a b kk [.s C16, .l C16 99958, .b 0, .s C12] st42) : FF a b kk [.s C0] st0 := go40 a b h1 h2 h3 h4 (show 39 < a by omega) kk (step40 a b h1 h2 h3 h4 h5 kk F)
theorem go42 (a b : Int) (h1 : 0 ≤ a) (h2 : a ≤ 50) (h3 : 0 ≤ b) (h4 : b ≤ 10000) (h5 : 41 < a) (kk : List Int) (F : FF a b kk [.s C16, .l C16 99957, .b 0, .s C12] st43) : FF a b kk [.s C0] st0 := go41 a b h1 h2 h3 h4 (show 40 < a by omega) kk (step41 a b h1 h2 h3 h4 h5 kk F)
theorem go43 (a b : Int) (h1 : 0 ≤ a) (h2 : a ≤ 50) (h3 : 0 ≤ b) (h4 : b ≤ 10000) (h5 : 42 < a) (kk : List Int) (F : FF a b kk [.s C16, .l C16 99956, .b 0, .s C12] st44) : FF a b kk [.s C0] st0 := go42 a b h1 h2 h3 h4 (show 41 < a by omega) kk (step42 a b h1 h2 h3 h4 h5 kk F)
theorem go44 (a b : Int) (h1 : 0 ≤ a) (h2 : a ≤ 50) (h3 : 0 ≤ b) (h4 : b ≤ 10000) (h5 : 43 < a) (kk : List Int) (F : FF a b kk [.s C16, .l C16 99955, .b 0, .s C12] st45) : FF a b kk [.s C0] st0 := go43 a b h1 h2 h3 h4 (show 42 < a by omega) kk (step43 a b h1 h2 h3 h4 h5 kk F)
theorem go45 (a b : Int) (h1 : 0 ≤ a) (h2 : a ≤ 50) (h3 : 0 ≤ b) (h4 : b ≤ 10000) (h5 : 44 < a) (kk : List Int) (F : FF a b kk [.s C16, .l C16 99954, .b 0, .s C12] st46) : FF a b kk [.s C0] st0 := go44 a b h1 h2 h3 h4 (show 43 < a by omega) kk (step44 a b h1 h2 h3 h4 h5 kk F)
theorem go46 (a b : Int) (h1 : 0 ≤ a) (h2 : a ≤ 50) (h3 : 0 ≤ b) (h4 : b ≤ 10000) (h5 : 45 < a) (kk : List Int) (F : FF a b kk [.s C16, .l C16 99953, .b 0, .s C12] st47) : FF a b kk [.s C0] st0 := go45 a b h1 h2 h3 h4 (show 44 < a by omega) kk (step45 a b h1 h2 h3 h4 h5 kk F)
theorem go47 (a b : Int) (h1 : 0 ≤ a) (h2 : a ≤ 50) (h3 : 0 ≤ b) (h4 : b ≤ 10000) (h5 : 46 < a) (kk : List Int) (F : FF a b kk [.s C16, .l C16 99952, .b 0, .s C12] st48) : FF a b kk [.s C0] st0 := go46 a b h1 h2 h3 h4 (show 45 < a by omega) kk (step46 a b h1 h2 h3 h4 h5 kk F)
theorem go48 (a b : Int) (h1 : 0 ≤ a) (h2 : a ≤ 50) (h3 : 0 ≤ b) (h4 : b ≤ 10000) (h5 : 47 < a) (kk : List Int) (F : FF a b kk [.s C16, .l C16 99951, .b 0, .s C12] st49) : FF a b kk [.s C0] st0 := go47 a b h1 h2 h3 h4 (show 46 < a by omega) kk (step47 a b h1 h2 h3 h4 h5 kk F)
theorem go49 (a b : Int) (h1 : 0 ≤ a) (h2 : a ≤ 50) (h3 : 0 ≤ b) (h4 : b ≤ 10000) (h5 : 48 < a) (kk : List Int) (F : FF a b kk [.s C16, .l C16 99950, .b 0, .s C12] st50) : FF a b kk [.s C0] st0 := go48 a b h1 h2 h3 h4 (show 47 < a by omega) kk (step48 a b h1 h2 h3 h4 h5 kk F)
theorem go50 (a b : Int) (h1 : 0 ≤ a) (h2 : a ≤ 50) (h3 : 0 ≤ b) (h4 : b ≤ 10000) (h5 : 49 < a) (kk : List Int) (F : FF a b kk [.s C16, .l C16 99949, .b 0, .s C12] st51) : FF a b kk [.s C0] st0 := go49 a b h1 h2 h3 h4 (show 48 < a by omega) kk (step49 a b h1 h2 h3 h4 h5 kk F)
theorem all (a b : Int) (h1 : 0 ≤ a) (h2 : a ≤ 50) (h3 : 0 ≤ b) (h4 : b ≤ 10000) : ∃ kk, FF a b kk [.s C0] st0 := by
  have h : a = 0 ∨ a = 1 ∨ a = 2 ∨ a = 3 ∨ a = 4 ∨ a = 5 ∨ a = 6 ∨ a = 7 ∨ a = 8 ∨ a = 9 ∨ a = 10 ∨ a = 11 ∨ a = 12 ∨ a = 13 ∨ a = 14 ∨ a = 15 ∨ a = 16 ∨ a = 17 ∨ a = 18 ∨ a = 19 ∨ a = 20 ∨ a = 21 ∨ a = 22 ∨ a = 23 ∨ a = 24 ∨ a = 25 ∨ a = 26 ∨ a = 27 ∨ a = 28 ∨ a = 29 ∨ a = 30 ∨ a = 31 ∨ a = 32 ∨ a = 33 ∨ a = 34 ∨ a = 35 ∨ a = 36 ∨ a = 37 ∨ a = 38 ∨ a = 39 ∨ a = 40 ∨ a = 41 ∨ a = 42 ∨ a = 43 ∨ a = 44 ∨ a = 45 ∨ a = 46 ∨ a = 47 ∨ a = 48 ∨ a = 49 ∨ a = 50 := by omega
  rcases h with h | h | h | h | h | h | h | h | h | h | h | h | h | h | h | h | h | h | h | h | h | h | h | h | h | h | h | h | h | h | h | h | h | h | h | h | h | h | h | h | h | h | h | h | h | h | h | h | h | h | h
  · obtain ⟨kk, F⟩ := end0 a b h1 h2 h3 h4 h
    exact ⟨kk, go0 a b h1 h2 h3 h4 kk F⟩
  · obtain ⟨kk, F⟩ := end1 a b h1 h2 h3 h4 h
    exact ⟨kk, go1 a b h1 h2 h3 h4 (show 0 < a by omega) kk F⟩
  · obtain ⟨kk, F⟩ := end2 a b h1 h2 h3 h4 h
    exact ⟨kk, go2 a b h1 h2 h3 h4 (show 1 < a by omega) kk F⟩
  · obtain ⟨kk, F⟩ := end3 a b h1 h2 h3 h4 h
    exact ⟨kk, go3 a b h1 h2 h3 h4 (show 2 < a by omega) kk F⟩
  · obtain ⟨kk, F⟩ := end4 a b h1 h2 h3 h4 h
    exact ⟨kk, go4 a b h1 h2 h3 h4 (show 3 < a by omega) kk F⟩
  · obtain ⟨kk, F⟩ := end5 a b h1 h2 h3 h4 h
    exact ⟨kk, go5 a b h1 h2 h3 h4 (show 4 < a by omega) kk F⟩
  · obtain ⟨kk, F⟩ := end6 a b h1 h2 h3 h4 h
    exact ⟨kk, go6 a b h1 h2 h3 h4 (show 5 < a by omega) kk F⟩
  · obtain ⟨kk, F⟩ := end7 a b h1 h2 h3 h4 h
    exact ⟨kk, go7 a b h1 h2 h3 h4 (show 6 < a by omega) kk F⟩
  · obtain ⟨kk, F⟩ := end8 a b h1 h2 h3 h4 h
    exact ⟨kk, go8 a b h1 h2 h3 h4 (show 7 < a by omega) kk F⟩
  · obtain ⟨kk, F⟩ := end9 a b h1 h2 h3 h4 h
    exact ⟨kk, go9 a b h1 h2 h3 h4 (show 8 < a by omega) kk F⟩
  · obtain ⟨kk, F⟩ := end10 a b h1 h2 h3 h4 h
    exact ⟨kk, go10 a b h1 h2 h3 h4 (show 9 < a by omega) kk F⟩
  · obtain ⟨kk, F⟩ := end11 a b h1 h2 h3 h4 h
    exact ⟨kk, go11 a b h1 h2 h3 h4 (show 10 < a by omega) kk F⟩
  · obtain ⟨kk, F⟩ := end12 a b h1 h2 h3 h4 h
    exact ⟨kk, go12 a b h1 h2 h3 h4 (show 11 < a by omega) kk F⟩
  · obtain ⟨kk, F⟩ := end13 a b h1 h2 h3 h4 h
    exact ⟨kk, go13 a b h1 h2 h3 h4 (show 12 < a by omega) kk F⟩
  · obtain ⟨kk, F⟩ := end14 a b h1 h2 h3 h4 h
    exact ⟨kk, go14 a b h1 h2 h3 h4 (show 13 < a by omega) kk F⟩
  · obtain ⟨kk, F⟩ := end15 a b h1 h2 h3 h4 h
    exact ⟨kk, go15 a b h1 h2 h3 h4 (show 14 < a by omega) kk F⟩
  · obtain ⟨kk, F⟩ := end16 a b h1 h2 h3 h4 h
    exact ⟨kk, go16 a b h1 h2 h3 h4 (show 15 < a by omega) kk F⟩
  · obtain ⟨kk, F⟩ := end17 a b h1 h2 h3 h4 h
    exact ⟨kk, go17 a b h1 h2 h3 h4 (show 16 < a by omega) kk F⟩
  · obtain ⟨kk, F⟩ := end18 a b h1 h2 h3 h4 h
    exact ⟨kk, go18 a b h1 h2 h3 h4 (show 17 < a by omega) kk F⟩
  · obtain ⟨kk, F⟩ := end19 a b h1 h2 h3 h4 h
    exact ⟨kk, go19 a b h1 h2 h3 h4 (show 18 < a by omega) kk F⟩
  · obtain ⟨kk, F⟩ := end20 a b h1 h2 h3 h4 h
    exact ⟨kk, go20 a b h1 h2 h3 h4 (show 19 < a by omega) kk F⟩
  · obtain ⟨kk, F⟩ := end21 a b h1 h2 h3 h4 h
    exact ⟨kk, go21 a b h1 h2 h3 h4 (show 20 < a by omega) kk F⟩
  · obtain ⟨kk, F⟩ := end22 a b h1 h2 h3 h4 h
    exact ⟨kk, go22 a b h1 h2 h3 h4 (show 21 < a by omega) kk F⟩
  · obtain ⟨kk, F⟩ := end23 a b h1 h2 h3 h4 h
    exact ⟨kk, go23 a b h1 h2 h3 h4 (show 22 < a by omega) kk F⟩
  · obtain ⟨kk, F⟩ := end24 a b h1 h2 h3 h4 h
    exact ⟨kk, go24 a b h1 h2 h3 h4 (show 23 < a by omega) kk F⟩
  · obtain ⟨kk, F⟩ := end25 a b h1 h2 h3 h4 h
    exact ⟨kk, go25 a b h1 h2 h3 h4 (show 24 < a by omega) kk F⟩
  · obtain ⟨kk, F⟩ := end26 a b h1 h2 h3 h4 h
    exact ⟨kk, go26 a b h1 h2 h3 h4 (show 25 < a by omega) kk F⟩
  · obtain ⟨kk, F⟩ := end27 a b h1 h2 h3 h4 h
    exact ⟨kk, go27 a b h1 h2 h3 h4 (show 26 < a by omega) kk F⟩
  · obtain ⟨kk, F⟩ := end28 a b h1 h2 h3 h4 h
    exact ⟨kk, go28 a b h1 h2 h3 h4 (show 27 < a by omega) kk F⟩
  · obtain ⟨kk, F⟩ := end29 a b h1 h2 h3 h4 h
    exact ⟨kk, go29 a b h1 h2 h3 h4 (show 28 < a by omega) kk F⟩
  · obtain ⟨kk, F⟩ := end30 a b h1 h2 h3 h4 h
    exact ⟨kk, go30 a b h1 h2 h3 h4 (show 29 < a by omega) kk F⟩
  · obtain ⟨kk, F⟩ := end31 a b h1 h2 h3 h4 h
    exact ⟨kk, go31 a b h1 h2 h3 h4 (show 30 < a by omega) kk F⟩
  · obtain ⟨kk, F⟩ := end32 a b h1 h2 h3 h4 h
    exact ⟨kk, go32 a b h1 h2 h3 h4 (show 31 < a by omega) kk F⟩
  · obtain ⟨kk, F⟩ := end33 a b h1 h2 h3 h4 h
    exact ⟨kk, go33 a b h1 h2 h3 h4 (show 32 < a by omega) kk F⟩
  · obtain ⟨kk, F⟩ := end34 a b h1 h2 h3 h4 h
    exact ⟨kk, go34 a b h1 h2 h3 h4 (show 33 < a by omega) kk F⟩
  · obtain ⟨kk, F⟩ := end35 a b h1 h2 h3 h4 h
    exact ⟨kk, go35 a b h1 h2 h3 h4 (show 34 < a by omega) kk F⟩
  · obtain ⟨kk, F⟩ := end36 a b h1 h2 h3 h4 h
    exact ⟨kk, go36 a b h1 h2 h3 h4 (show 35 < a by omega) kk F⟩
  · obtain ⟨kk, F⟩ := end37 a b h1 h2 h3 h4 h
    exact ⟨kk, go37 a b h1 h2 h3 h4 (show 36 < a by omega) kk F⟩
  · obtain ⟨kk, F⟩ := end38 a b h1 h2 h3 h4 h
    exact ⟨kk, go38 a b h1 h2 h3 h4 (show 37 < a by omega) kk F⟩
  · obtain ⟨kk, F⟩ := end39 a b h1 h2 h3 h4 h
    exact ⟨kk, go39 a b h1 h2 h3 h4 (show 38 < a by omega) kk F⟩
  · obtain ⟨kk, F⟩ := end40 a b h1 h2 h3 h4 h
    exact ⟨kk, go40 a b h1 h2 h3 h4 (show 39 < a by omega) kk F⟩
  · obtain ⟨kk, F⟩ := end41 a b h1 h2 h3 h4 h
    exact ⟨kk, go41 a b h1 h2 h3 h4 (show 40 < a by omega) kk F⟩
  · obtain ⟨kk, F⟩ := end42 a b h1 h2 h3 h4 h
    exact ⟨kk, go42 a b h1 h2 h3 h4 (show 41 < a by omega) kk F⟩
  · obtain ⟨kk, F⟩ := end43 a b h1 h2 h3 h4 h
    exact ⟨kk, go43 a b h1 h2 h3 h4 (show 42 < a by omega) kk F⟩
  · obtain ⟨kk, F⟩ := end44 a b h1 h2 h3 h4 h
    exact ⟨kk, go44 a b h1 h2 h3 h4 (show 43 < a by omega) kk F⟩
  · obtain ⟨kk, F⟩ := end45 a b h1 h2 h3 h4 h
    exact ⟨kk, go45 a b h1 h2 h3 h4 (show 44 < a by omega) kk F⟩
  · obtain ⟨kk, F⟩ := end46 a b h1 h2 h3 h4 h
    exact ⟨kk, go46 a b h1 h2 h3 h4 (show 45 < a by omega) kk F⟩
  · obtain ⟨kk, F⟩ := end47 a b h1 h2 h3 h4 h
    exact ⟨kk, go47 a b h1 h2 h3 h4 (show 46 < a by omega) kk F⟩
  · obtain ⟨kk, F⟩ := end48 a b h1 h2 h3 h4 h
    exact ⟨kk, go48 a b h1 h2 h3 h4 (show 47 < a by omega) kk F⟩
  · obtain ⟨kk, F⟩ := end49 a b h1 h2 h3 h4 h
    exact ⟨kk, go49 a b h1 h2 h3 h4 (show 48 < a by omega) kk F⟩
  · obtain ⟨kk, F⟩ := end50 a b h1 h2 h3 h4 h
    exact ⟨kk, go50 a b h1 h2 h3 h4 (show 49 < a by omega) kk F⟩
theorem ran (a b : Int) (h1 : 0 ≤ a) (h2 : a ≤ 50) (h3 : 0 ≤ b) (h4 : b ≤ 10000) : ∃ h', sem (mkX Try.prog) 100000 100 22 [.i .i64 a, .i .i64 b] ⟨16, lay []⟩ = some (.b true, h') := by
  obtain ⟨kk, F⟩ := all a b h1 h2 h3 h4
  have := law_of_fin (n := 99) (args := [nameV .i64 0, nameV .i64 1]) (tb := []) (ρ := nmL ([a, b] ++ kk)) Try.func22 (by kernel_rfl) (by kernel_rfl) F
  have hv : vals (nmL ([a, b] ++ kk)) [nameV .i64 0, nameV .i64 1] = [.i .i64 a, .i .i64 b] := by
    simp only [vals, val_nameV]
    rfl
  rw [hv] at this
  exact this
end Go.Proofs.Ytfkbofbdonmpfaa.serveTalks
