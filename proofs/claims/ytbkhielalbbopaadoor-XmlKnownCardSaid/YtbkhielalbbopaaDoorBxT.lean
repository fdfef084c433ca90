/- The table of the ready bodies. -/
import Derived.Test.YtbkhielalbbopaaDoorM6
import Derived.Test.YtbkhielalbbopaaDoorBx0
set_option linter.unusedSimpArgs false
set_option linter.unusedVariables false
set_option linter.unusedSectionVars false
set_option linter.unnecessarySimpa false
set_option maxRecDepth 100000
namespace Go.Proofs.YtbkhielalbbopaaDoor.Bodies
open Go.Am
theorem xc : xClean (mkX Tryd.prog) = true := by kernel_rfl
theorem ok0 : okAll Tryd.prog [3, 6, 9, 10, 11, 12, 14, 17, 18, 19, 20, 21, 22, 23, 24, 26, 27, 29, 30, 31, 32, 33, 34, 35, 36, 37, 38, 40, 44, 45, 46, 47, 48, 50, 51, 53, 55, 58, 60, 61] = true := by kernel_rfl
theorem ok1 : okAll Tryd.prog [64, 68] = true := by kernel_rfl
theorem K3 : FastOk Tryd.prog 100000 3 W3 := fast_of Tryd.func3 (okAll_mem ok0 Tryd.func3 (by kernel_rfl)) (by kernel_rfl) (fun x call => T3 pr0 x call) (fun _ _ _ _ _ => wr0_good)
theorem K6 : FastOk Tryd.prog 100000 6 W6 := fast_of Tryd.func6 (okAll_mem ok0 Tryd.func6 (by kernel_rfl)) (by kernel_rfl) (fun x call => T6 pr0 x call) (fun _ _ _ _ _ => wr1_good)
theorem K9 : FastOk Tryd.prog 100000 9 W9 := fast_of Tryd.func9 (okAll_mem ok0 Tryd.func9 (by kernel_rfl)) (by kernel_rfl) (fun x call => T9 pr0 x call) (fun _ _ _ _ _ => wr0_good)
theorem K10 : FastOk Tryd.prog 100000 10 W10 := fast_of Tryd.func10 (okAll_mem ok0 Tryd.func10 (by kernel_rfl)) (by kernel_rfl) (fun x call => T10 pr0 x call) (fun _ _ _ _ _ => wr1_good)
theorem K11 : FastOk Tryd.prog 100000 11 W11 := fast_of Tryd.func11 (okAll_mem ok0 Tryd.func11 (by kernel_rfl)) (by kernel_rfl) (fun x call => T11 pr0 x call) (fun _ _ _ _ _ => wr1_good)
theorem K12 : FastOk Tryd.prog 100000 12 W12 := fast_of Tryd.func12 (okAll_mem ok0 Tryd.func12 (by kernel_rfl)) (by kernel_rfl) (fun x call => T12 pr0 x call) (fun _ _ _ _ _ => wr2_good)
theorem K14 : FastOk Tryd.prog 100000 14 W14 := fast_of Tryd.func14 (okAll_mem ok0 Tryd.func14 (by kernel_rfl)) (by kernel_rfl) (fun x call => T14 pr0 x call) (fun _ _ _ _ _ => wr1_good)
theorem K17 : FastOk Tryd.prog 100000 17 W17 := fast_of Tryd.func17 (okAll_mem ok0 Tryd.func17 (by kernel_rfl)) (by kernel_rfl) (fun x call => T17 pr0 x call) (fun _ _ _ _ _ => wr1_good)
theorem K18 : FastOk Tryd.prog 100000 18 W18 := fast_of Tryd.func18 (okAll_mem ok0 Tryd.func18 (by kernel_rfl)) (by kernel_rfl) (fun x call => T18 pr0 x call) (fun _ _ _ _ _ => wr1_good)
theorem K19 : FastOk Tryd.prog 100000 19 W19 := fast_of Tryd.func19 (okAll_mem ok0 Tryd.func19 (by kernel_rfl)) (by kernel_rfl) (fun x call => T19 pr0 x call) (fun _ _ _ _ _ => wr2_good)
theorem K20 : FastOk Tryd.prog 100000 20 W20 := fast_of Tryd.func20 (okAll_mem ok0 Tryd.func20 (by kernel_rfl)) (by kernel_rfl) (fun x call => T20 pr0 x call) (fun _ _ _ _ _ => wr2_good)
theorem K21 : FastOk Tryd.prog 100000 21 W21 := fast_of Tryd.func21 (okAll_mem ok0 Tryd.func21 (by kernel_rfl)) (by kernel_rfl) (fun x call => T21 pr0 x call) (fun _ _ _ _ _ => wr1_good)
theorem K22 : FastOk Tryd.prog 100000 22 W22 := fast_of Tryd.func22 (okAll_mem ok0 Tryd.func22 (by kernel_rfl)) (by kernel_rfl) (fun x call => T22 pr0 x call) (fun _ _ _ _ _ => wr1_good)
theorem K23 : FastOk Tryd.prog 100000 23 W23 := fast_of Tryd.func23 (okAll_mem ok0 Tryd.func23 (by kernel_rfl)) (by kernel_rfl) (fun x call => T23 pr0 x call) (fun _ _ _ _ _ => wr2_good)
theorem K24 : FastOk Tryd.prog 100000 24 W24 := fast_of Tryd.func24 (okAll_mem ok0 Tryd.func24 (by kernel_rfl)) (by kernel_rfl) (fun x call => T24 pr0 x call) (fun _ _ _ _ _ => wr2_good)
theorem K26 : FastOk Tryd.prog 100000 26 W26 := fast_of Tryd.func26 (okAll_mem ok0 Tryd.func26 (by kernel_rfl)) (by kernel_rfl) (fun x call => T26 pr0 x call) (fun _ _ _ _ _ => wr1_good)
theorem K27 : FastOk Tryd.prog 100000 27 W27 := fast_of Tryd.func27 (okAll_mem ok0 Tryd.func27 (by kernel_rfl)) (by kernel_rfl) (fun x call => T27 pr0 x call) (fun _ _ _ _ _ => wr1_good)
theorem K29 : FastOk Tryd.prog 100000 29 W29 := fast_of Tryd.func29 (okAll_mem ok0 Tryd.func29 (by kernel_rfl)) (by kernel_rfl) (fun x call => T29 pr0 x call) (fun _ _ _ _ _ => wr1_good)
theorem K30 : FastOk Tryd.prog 100000 30 W30 := fast_of Tryd.func30 (okAll_mem ok0 Tryd.func30 (by kernel_rfl)) (by kernel_rfl) (fun x call => T30 pr0 x call) (fun _ _ _ _ _ => wr1_good)
theorem K31 : FastOk Tryd.prog 100000 31 W31 := fast_of Tryd.func31 (okAll_mem ok0 Tryd.func31 (by kernel_rfl)) (by kernel_rfl) (fun x call => T31 pr0 x call) (fun _ _ _ _ _ => wr1_good)
theorem K32 : FastOk Tryd.prog 100000 32 W32 := fast_of Tryd.func32 (okAll_mem ok0 Tryd.func32 (by kernel_rfl)) (by kernel_rfl) (fun x call => T32 pr0 x call) (fun _ _ _ _ _ => wr2_good)
theorem K33 : FastOk Tryd.prog 100000 33 W33 := fast_of Tryd.func33 (okAll_mem ok0 Tryd.func33 (by kernel_rfl)) (by kernel_rfl) (fun x call => T33 pr0 x call) (fun _ _ _ _ _ => wr2_good)
theorem K34 : FastOk Tryd.prog 100000 34 W34 := fast_of Tryd.func34 (okAll_mem ok0 Tryd.func34 (by kernel_rfl)) (by kernel_rfl) (fun x call => T34 pr0 x call) (fun _ _ _ _ _ => wr1_good)
theorem K35 : FastOk Tryd.prog 100000 35 W35 := fast_of Tryd.func35 (okAll_mem ok0 Tryd.func35 (by kernel_rfl)) (by kernel_rfl) (fun x call => T35 pr0 x call) (fun _ _ _ _ _ => wr1_good)
theorem K36 : FastOk Tryd.prog 100000 36 W36 := fast_of Tryd.func36 (okAll_mem ok0 Tryd.func36 (by kernel_rfl)) (by kernel_rfl) (fun x call => T36 pr0 x call) (fun _ _ _ _ _ => wr2_good)
theorem K37 : FastOk Tryd.prog 100000 37 W37 := fast_of Tryd.func37 (okAll_mem ok0 Tryd.func37 (by kernel_rfl)) (by kernel_rfl) (fun x call => T37 pr0 x call) (fun _ _ _ _ _ => wr2_good)
theorem K38 : FastOk Tryd.prog 100000 38 W38 := fast_of Tryd.func38 (okAll_mem ok0 Tryd.func38 (by kernel_rfl)) (by kernel_rfl) (fun x call => T38 pr0 x call) (fun _ _ _ _ _ => wr2_good)
theorem K40 : FastOk Tryd.prog 100000 40 W40 := fast_of Tryd.func40 (okAll_mem ok0 Tryd.func40 (by kernel_rfl)) (by kernel_rfl) (fun x call => T40 pr0 x call) (fun _ _ _ _ _ => wr2_good)
theorem K44 : FastOk Tryd.prog 100000 44 W44 := fast_of Tryd.func44 (okAll_mem ok0 Tryd.func44 (by kernel_rfl)) (by kernel_rfl) (fun x call => T44 pr0 x call) (fun _ _ _ _ _ => wr1_good)
theorem K45 : FastOk Tryd.prog 100000 45 W45 := fast_of Tryd.func45 (okAll_mem ok0 Tryd.func45 (by kernel_rfl)) (by kernel_rfl) (fun x call => T45 pr0 x call) (fun _ _ _ _ _ => wr1_good)
theorem K46 : FastOk Tryd.prog 100000 46 W46 := fast_of Tryd.func46 (okAll_mem ok0 Tryd.func46 (by kernel_rfl)) (by kernel_rfl) (fun x call => T46 pr0 x call) (fun _ _ _ _ _ => wr1_good)
theorem K47 : FastOk Tryd.prog 100000 47 W47 := fast_of Tryd.func47 (okAll_mem ok0 Tryd.func47 (by kernel_rfl)) (by kernel_rfl) (fun x call => T47 pr0 x call) (fun _ _ _ _ _ => wr2_good)
theorem K48 : FastOk Tryd.prog 100000 48 W48 := fast_of Tryd.func48 (okAll_mem ok0 Tryd.func48 (by kernel_rfl)) (by kernel_rfl) (fun x call => T48 pr0 x call) (fun _ _ _ _ _ => wr2_good)
theorem K50 : FastOk Tryd.prog 100000 50 W50 := fast_of Tryd.func50 (okAll_mem ok0 Tryd.func50 (by kernel_rfl)) (by kernel_rfl) (fun x call => T50 pr0 x call) (fun _ _ _ _ _ => wr1_good)
theorem K51 : FastOk Tryd.prog 100000 51 W51 := fast_of Tryd.func51 (okAll_mem ok0 Tryd.func51 (by kernel_rfl)) (by kernel_rfl) (fun x call => T51 pr0 x call) (fun _ _ _ _ _ => wr2_good)
theorem K53 : FastOk Tryd.prog 100000 53 W53 := fast_of Tryd.func53 (okAll_mem ok0 Tryd.func53 (by kernel_rfl)) (by kernel_rfl) (fun x call => T53 pr0 x call) (fun _ _ _ _ _ => wr2_good)
theorem K55 : FastOk Tryd.prog 100000 55 W55 := fast_of Tryd.func55 (okAll_mem ok0 Tryd.func55 (by kernel_rfl)) (by kernel_rfl) (fun x call => T55 pr0 x call) (fun _ _ _ _ _ => wr2_good)
theorem K58 : FastOk Tryd.prog 100000 58 W58 := fast_of Tryd.func58 (okAll_mem ok0 Tryd.func58 (by kernel_rfl)) (by kernel_rfl) (fun x call => T58 pr0 x call) (fun _ _ _ _ _ => wr2_good)
theorem K60 : FastOk Tryd.prog 100000 60 W60 := fast_of Tryd.func60 (okAll_mem ok0 Tryd.func60 (by kernel_rfl)) (by kernel_rfl) (fun x call => T60 pr0 x call) (fun _ _ _ _ _ => wr2_good)
theorem K61 : FastOk Tryd.prog 100000 61 W61 := fast_of Tryd.func61 (okAll_mem ok0 Tryd.func61 (by kernel_rfl)) (by kernel_rfl) (fun x call => T61 pr0 x call) (fun _ _ _ _ _ => wr2_good)
theorem K64 : FastOk Tryd.prog 100000 64 W64 := fast_of Tryd.func64 (okAll_mem ok1 Tryd.func64 (by kernel_rfl)) (by kernel_rfl) (fun x call => T64 pr0 x call) (fun _ _ _ _ _ => wr2_good)
theorem K68 : FastOk Tryd.prog 100000 68 W68 := fast_of Tryd.func68 (okAll_mem ok1 Tryd.func68 (by kernel_rfl)) (by kernel_rfl) (fun x call => T68 pr0 x call) (fun _ _ _ _ _ => wr2_good)
noncomputable def tab0 : Tab := (T.put (T.put (T.put (T.put (T.put (T.put (T.put (T.put (T.put (T.put (T.put (T.put (T.put (T.put (T.put (T.put (T.put (T.put (T.put (T.put (T.put (T.put (T.put (T.put (T.put (T.put (T.put (T.put (T.put (T.put (T.put (T.put (T.put (T.put (T.put (T.put (T.put (T.put (T.put (T.put .l 3 (some W3)) 6 (some W6)) 9 (some W9)) 10 (some W10)) 11 (some W11)) 12 (some W12)) 14 (some W14)) 17 (some W17)) 18 (some W18)) 19 (some W19)) 20 (some W20)) 21 (some W21)) 22 (some W22)) 23 (some W23)) 24 (some W24)) 26 (some W26)) 27 (some W27)) 29 (some W29)) 30 (some W30)) 31 (some W31)) 32 (some W32)) 33 (some W33)) 34 (some W34)) 35 (some W35)) 36 (some W36)) 37 (some W37)) 38 (some W38)) 40 (some W40)) 44 (some W44)) 45 (some W45)) 46 (some W46)) 47 (some W47)) 48 (some W48)) 50 (some W50)) 51 (some W51)) 53 (some W53)) 55 (some W55)) 58 (some W58)) 60 (some W60)) 61 (some W61))
theorem tabOk0 : TabOk Tryd.prog 100000 tab0 := (tab_put (tab_put (tab_put (tab_put (tab_put (tab_put (tab_put (tab_put (tab_put (tab_put (tab_put (tab_put (tab_put (tab_put (tab_put (tab_put (tab_put (tab_put (tab_put (tab_put (tab_put (tab_put (tab_put (tab_put (tab_put (tab_put (tab_put (tab_put (tab_put (tab_put (tab_put (tab_put (tab_put (tab_put (tab_put (tab_put (tab_put (tab_put (tab_put (tab_put (tab_nil _) K3) K6) K9) K10) K11) K12) K14) K17) K18) K19) K20) K21) K22) K23) K24) K26) K27) K29) K30) K31) K32) K33) K34) K35) K36) K37) K38) K40) K44) K45) K46) K47) K48) K50) K51) K53) K55) K58) K60) K61)
noncomputable def tab1 : Tab := (T.put (T.put tab0 64 (some W64)) 68 (some W68))
theorem tabOk1 : TabOk Tryd.prog 100000 tab1 := (tab_put (tab_put tabOk0 K64) K68)
noncomputable abbrev tab : Tab := tab1
theorem tabOk : TabOk Tryd.prog 100000 tab := tabOk1
end Go.Proofs.YtbkhielalbbopaaDoor.Bodies
