/- The table of the ready bodies. -/
import Derived.Test.YtfkbofbdonmpfaaM4
import Derived.Test.YtfkbofbdonmpfaaBgP0
set_option linter.unusedSimpArgs false
set_option linter.unusedVariables false
set_option linter.unusedSectionVars false
set_option linter.unnecessarySimpa false
set_option maxRecDepth 100000
namespace Go.Proofs.Ytfkbofbdonmpfaa.Bodies
open Go.Am
theorem xc : xClean (mkX Try.prog) = true := by kernel_rfl
theorem ok0 : okAll Try.prog [6, 23, 24, 25, 26, 27, 28, 29, 30, 31, 64, 65, 66, 67, 68, 69, 70, 71, 72, 73, 74, 75, 99, 118, 119, 120, 121, 122, 123, 124, 157] = true := by kernel_rfl
theorem K6 : FastOk Try.prog 100000 6 W6 := fast_of Try.func6 (okAll_mem ok0 Try.func6 (by kernel_rfl)) (by kernel_rfl) (fun x call => T6 pr0 x call) (fun _ _ _ _ _ => wr3_good)
theorem K23 : FastOk Try.prog 100000 23 W23 := fast_of Try.func23 (okAll_mem ok0 Try.func23 (by kernel_rfl)) (by kernel_rfl) (fun x call => T23 pr0 x call) (fun _ _ _ _ _ => wr0_good)
theorem K24 : FastOk Try.prog 100000 24 W24 := fast_of Try.func24 (okAll_mem ok0 Try.func24 (by kernel_rfl)) (by kernel_rfl) (fun x call => T24 pr0 x call) (fun _ _ _ _ _ => wr2_good)
theorem K25 : FastOk Try.prog 100000 25 W25 := fast_of Try.func25 (okAll_mem ok0 Try.func25 (by kernel_rfl)) (by kernel_rfl) (fun x call => T25 pr0 x call) (fun _ _ _ _ _ => wr4_good)
theorem K26 : FastOk Try.prog 100000 26 W26 := fast_of Try.func26 (okAll_mem ok0 Try.func26 (by kernel_rfl)) (by kernel_rfl) (fun x call => T26 pr0 x call) (fun _ _ _ _ _ => wr1_good)
theorem K27 : FastOk Try.prog 100000 27 W27 := fast_of Try.func27 (okAll_mem ok0 Try.func27 (by kernel_rfl)) (by kernel_rfl) (fun x call => T27 pr0 x call) (fun _ _ _ _ _ => wr2_good)
theorem K28 : FastOk Try.prog 100000 28 W28 := fast_of Try.func28 (okAll_mem ok0 Try.func28 (by kernel_rfl)) (by kernel_rfl) (fun x call => T28 pr0 x call) (fun _ _ _ _ _ => wr4_good)
theorem K29 : FastOk Try.prog 100000 29 W29 := fast_of Try.func29 (okAll_mem ok0 Try.func29 (by kernel_rfl)) (by kernel_rfl) (fun x call => T29 pr0 x call) (fun _ _ _ _ _ => wr3_good)
theorem K30 : FastOk Try.prog 100000 30 W30 := fast_of Try.func30 (okAll_mem ok0 Try.func30 (by kernel_rfl)) (by kernel_rfl) (fun x call => T30 pr0 x call) (fun _ _ _ _ _ => wr3_good)
theorem K31 : FastOk Try.prog 100000 31 W31 := fast_of Try.func31 (okAll_mem ok0 Try.func31 (by kernel_rfl)) (by kernel_rfl) (fun x call => T31 pr0 x call) (fun _ _ _ _ _ => wr2_good)
theorem K64 : FastOk Try.prog 100000 64 W64 := fast_of Try.func64 (okAll_mem ok0 Try.func64 (by kernel_rfl)) (by kernel_rfl) (fun x call => T64 pr0 x call) (fun _ _ _ _ _ => wr2_good)
theorem K65 : FastOk Try.prog 100000 65 W65 := fast_of Try.func65 (okAll_mem ok0 Try.func65 (by kernel_rfl)) (by kernel_rfl) (fun x call => T65 pr0 x call) (fun _ _ _ _ _ => wr1_good)
theorem K66 : FastOk Try.prog 100000 66 W66 := fast_of Try.func66 (okAll_mem ok0 Try.func66 (by kernel_rfl)) (by kernel_rfl) (fun x call => T66 pr0 x call) (fun _ _ _ _ _ => wr3_good)
theorem K67 : FastOk Try.prog 100000 67 W67 := fast_of Try.func67 (okAll_mem ok0 Try.func67 (by kernel_rfl)) (by kernel_rfl) (fun x call => T67 pr0 x call) (fun _ _ _ _ _ => wr3_good)
theorem K68 : FastOk Try.prog 100000 68 W68 := fast_of Try.func68 (okAll_mem ok0 Try.func68 (by kernel_rfl)) (by kernel_rfl) (fun x call => T68 pr0 x call) (fun _ _ _ _ _ => wr2_good)
theorem K69 : FastOk Try.prog 100000 69 W69 := fast_of Try.func69 (okAll_mem ok0 Try.func69 (by kernel_rfl)) (by kernel_rfl) (fun x call => T69 pr0 x call) (fun _ _ _ _ _ => wr3_good)
theorem K70 : FastOk Try.prog 100000 70 W70 := fast_of Try.func70 (okAll_mem ok0 Try.func70 (by kernel_rfl)) (by kernel_rfl) (fun x call => T70 pr0 x call) (fun _ _ _ _ _ => wr2_good)
theorem K71 : FastOk Try.prog 100000 71 W71 := fast_of Try.func71 (okAll_mem ok0 Try.func71 (by kernel_rfl)) (by kernel_rfl) (fun x call => T71 pr0 x call) (fun _ _ _ _ _ => wr4_good)
theorem K72 : FastOk Try.prog 100000 72 W72 := fast_of Try.func72 (okAll_mem ok0 Try.func72 (by kernel_rfl)) (by kernel_rfl) (fun x call => T72 pr0 x call) (fun _ _ _ _ _ => wr2_good)
theorem K73 : FastOk Try.prog 100000 73 W73 := fast_of Try.func73 (okAll_mem ok0 Try.func73 (by kernel_rfl)) (by kernel_rfl) (fun x call => T73 pr0 x call) (fun _ _ _ _ _ => wr2_good)
theorem K74 : FastOk Try.prog 100000 74 W74 := fast_of Try.func74 (okAll_mem ok0 Try.func74 (by kernel_rfl)) (by kernel_rfl) (fun x call => T74 pr0 x call) (fun _ _ _ _ _ => wr3_good)
theorem K75 : FastOk Try.prog 100000 75 W75 := fast_of Try.func75 (okAll_mem ok0 Try.func75 (by kernel_rfl)) (by kernel_rfl) (fun x call => T75 pr0 x call) (fun _ _ _ _ _ => wr2_good)
theorem K99 : FastOk Try.prog 100000 99 W99 := fast_of Try.func99 (okAll_mem ok0 Try.func99 (by kernel_rfl)) (by kernel_rfl) (fun x call => T99 pr0 x call) (fun _ _ _ _ _ => wr2_good)
theorem K118 : FastOk Try.prog 100000 118 W118 := fast_of Try.func118 (okAll_mem ok0 Try.func118 (by kernel_rfl)) (by kernel_rfl) (fun x call => T118 pr0 x call) (fun _ _ _ _ _ => wr1_good)
theorem K119 : FastOk Try.prog 100000 119 W119 := fast_of Try.func119 (okAll_mem ok0 Try.func119 (by kernel_rfl)) (by kernel_rfl) (fun x call => T119 pr0 x call) (fun _ _ _ _ _ => wr2_good)
theorem K120 : FastOk Try.prog 100000 120 W120 := fast_of Try.func120 (okAll_mem ok0 Try.func120 (by kernel_rfl)) (by kernel_rfl) (fun x call => T120 pr0 x call) (fun _ _ _ _ _ => wr1_good)
theorem K121 : FastOk Try.prog 100000 121 W121 := fast_of Try.func121 (okAll_mem ok0 Try.func121 (by kernel_rfl)) (by kernel_rfl) (fun x call => T121 pr0 x call) (fun _ _ _ _ _ => wr2_good)
theorem K122 : FastOk Try.prog 100000 122 W122 := fast_of Try.func122 (okAll_mem ok0 Try.func122 (by kernel_rfl)) (by kernel_rfl) (fun x call => T122 pr0 x call) (fun _ _ _ _ _ => wr2_good)
theorem K123 : FastOk Try.prog 100000 123 W123 := fast_of Try.func123 (okAll_mem ok0 Try.func123 (by kernel_rfl)) (by kernel_rfl) (fun x call => T123 pr0 x call) (fun _ _ _ _ _ => wr2_good)
theorem K124 : FastOk Try.prog 100000 124 W124 := fast_of Try.func124 (okAll_mem ok0 Try.func124 (by kernel_rfl)) (by kernel_rfl) (fun x call => T124 pr0 x call) (fun _ _ _ _ _ => wr4_good)
theorem K157 : FastOk Try.prog 100000 157 W157 := fast_of Try.func157 (okAll_mem ok0 Try.func157 (by kernel_rfl)) (by kernel_rfl) (fun x call => T157 pr0 x call) (fun _ _ _ _ _ => wr1_good)
noncomputable def tab0 : Tab := (T.put (T.put (T.put (T.put (T.put (T.put (T.put (T.put (T.put (T.put (T.put (T.put (T.put (T.put (T.put (T.put (T.put (T.put (T.put (T.put (T.put (T.put (T.put (T.put (T.put (T.put (T.put (T.put (T.put (T.put (T.put .l 6 (some W6)) 23 (some W23)) 24 (some W24)) 25 (some W25)) 26 (some W26)) 27 (some W27)) 28 (some W28)) 29 (some W29)) 30 (some W30)) 31 (some W31)) 64 (some W64)) 65 (some W65)) 66 (some W66)) 67 (some W67)) 68 (some W68)) 69 (some W69)) 70 (some W70)) 71 (some W71)) 72 (some W72)) 73 (some W73)) 74 (some W74)) 75 (some W75)) 99 (some W99)) 118 (some W118)) 119 (some W119)) 120 (some W120)) 121 (some W121)) 122 (some W122)) 123 (some W123)) 124 (some W124)) 157 (some W157))
theorem tabOk0 : TabOk Try.prog 100000 tab0 := (tab_put (tab_put (tab_put (tab_put (tab_put (tab_put (tab_put (tab_put (tab_put (tab_put (tab_put (tab_put (tab_put (tab_put (tab_put (tab_put (tab_put (tab_put (tab_put (tab_put (tab_put (tab_put (tab_put (tab_put (tab_put (tab_put (tab_put (tab_put (tab_put (tab_put (tab_put (tab_nil _) K6) K23) K24) K25) K26) K27) K28) K29) K30) K31) K64) K65) K66) K67) K68) K69) K70) K71) K72) K73) K74) K75) K99) K118) K119) K120) K121) K122) K123) K124) K157)
noncomputable abbrev tab : Tab := tab0
theorem tabOk : TabOk Try.prog 100000 tab := tabOk0
end Go.Proofs.Ytfkbofbdonmpfaa.Bodies
