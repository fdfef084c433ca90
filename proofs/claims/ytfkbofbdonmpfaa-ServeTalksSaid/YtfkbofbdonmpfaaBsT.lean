/- The table of the ready bodies. -/
import Derived.Test.YtfkbofbdonmpfaaM6
import Derived.Test.YtfkbofbdonmpfaaBs0
set_option linter.unusedSimpArgs false
set_option linter.unusedVariables false
set_option linter.unusedSectionVars false
set_option linter.unnecessarySimpa false
set_option maxRecDepth 100000
namespace Go.Proofs.Ytfkbofbdonmpfaa.Bodies
open Go.Am
theorem xc : xClean (mkX Try.prog) = true := by kernel_rfl
theorem ok0 : okAll Try.prog [142, 85, 140, 96, 91, 145, 143, 95, 116, 93, 141, 171, 139, 150, 149, 146, 117, 167, 83, 166, 136, 165, 163, 79, 87, 37, 92, 90, 35, 132, 175, 80, 164, 133, 111, 203, 94, 61, 44, 97] = true := by kernel_rfl
theorem ok1 : okAll Try.prog [148, 47, 89, 88, 81, 60, 42, 36, 156, 114] = true := by kernel_rfl
theorem K142 : FastOk Try.prog 100000 142 W142 := fast_of Try.func142 (okAll_mem ok0 Try.func142 (by kernel_rfl)) (by kernel_rfl) (fun x call => T142 pr0 x call) (fun _ _ _ _ _ => wr2_good)
theorem K85 : FastOk Try.prog 100000 85 W85 := fast_of Try.func85 (okAll_mem ok0 Try.func85 (by kernel_rfl)) (by kernel_rfl) (fun x call => T85 pr0 x call) (fun _ _ _ _ _ => wr1_good)
theorem K140 : FastOk Try.prog 100000 140 W140 := fast_of Try.func140 (okAll_mem ok0 Try.func140 (by kernel_rfl)) (by kernel_rfl) (fun x call => T140 pr0 x call) (fun _ _ _ _ _ => wr2_good)
theorem K96 : FastOk Try.prog 100000 96 W96 := fast_of Try.func96 (okAll_mem ok0 Try.func96 (by kernel_rfl)) (by kernel_rfl) (fun x call => T96 pr0 x call) (fun _ _ _ _ _ => wr2_good)
theorem K91 : FastOk Try.prog 100000 91 W91 := fast_of Try.func91 (okAll_mem ok0 Try.func91 (by kernel_rfl)) (by kernel_rfl) (fun x call => T91 pr0 x call) (fun _ _ _ _ _ => wr2_good)
theorem K145 : FastOk Try.prog 100000 145 W145 := fast_of Try.func145 (okAll_mem ok0 Try.func145 (by kernel_rfl)) (by kernel_rfl) (fun x call => T145 pr0 x call) (fun _ _ _ _ _ => wr1_good)
theorem K143 : FastOk Try.prog 100000 143 W143 := fast_of Try.func143 (okAll_mem ok0 Try.func143 (by kernel_rfl)) (by kernel_rfl) (fun x call => T143 pr0 x call) (fun _ _ _ _ _ => wr2_good)
theorem K95 : FastOk Try.prog 100000 95 W95 := fast_of Try.func95 (okAll_mem ok0 Try.func95 (by kernel_rfl)) (by kernel_rfl) (fun x call => T95 pr0 x call) (fun _ _ _ _ _ => wr2_good)
theorem K116 : FastOk Try.prog 100000 116 W116 := fast_of Try.func116 (okAll_mem ok0 Try.func116 (by kernel_rfl)) (by kernel_rfl) (fun x call => T116 pr0 x call) (fun _ _ _ _ _ => wr2_good)
theorem K93 : FastOk Try.prog 100000 93 W93 := fast_of Try.func93 (okAll_mem ok0 Try.func93 (by kernel_rfl)) (by kernel_rfl) (fun x call => T93 pr0 x call) (fun _ _ _ _ _ => wr2_good)
theorem K141 : FastOk Try.prog 100000 141 W141 := fast_of Try.func141 (okAll_mem ok0 Try.func141 (by kernel_rfl)) (by kernel_rfl) (fun x call => T141 pr0 x call) (fun _ _ _ _ _ => wr3_good)
theorem K171 : FastOk Try.prog 100000 171 W171 := fast_of Try.func171 (okAll_mem ok0 Try.func171 (by kernel_rfl)) (by kernel_rfl) (fun x call => T171 pr0 x call) (fun _ _ _ _ _ => wr1_good)
theorem K139 : FastOk Try.prog 100000 139 W139 := fast_of Try.func139 (okAll_mem ok0 Try.func139 (by kernel_rfl)) (by kernel_rfl) (fun x call => T139 pr0 x call) (fun _ _ _ _ _ => wr2_good)
theorem K150 : FastOk Try.prog 100000 150 W150 := fast_of Try.func150 (okAll_mem ok0 Try.func150 (by kernel_rfl)) (by kernel_rfl) (fun x call => T150 pr0 x call) (fun _ _ _ _ _ => wr2_good)
theorem K149 : FastOk Try.prog 100000 149 W149 := fast_of Try.func149 (okAll_mem ok0 Try.func149 (by kernel_rfl)) (by kernel_rfl) (fun x call => T149 pr0 x call) (fun _ _ _ _ _ => wr2_good)
theorem K146 : FastOk Try.prog 100000 146 W146 := fast_of Try.func146 (okAll_mem ok0 Try.func146 (by kernel_rfl)) (by kernel_rfl) (fun x call => T146 pr0 x call) (fun _ _ _ _ _ => wr3_good)
theorem K117 : FastOk Try.prog 100000 117 W117 := fast_of Try.func117 (okAll_mem ok0 Try.func117 (by kernel_rfl)) (by kernel_rfl) (fun x call => T117 pr0 x call) (fun _ _ _ _ _ => wr2_good)
theorem K167 : FastOk Try.prog 100000 167 W167 := fast_of Try.func167 (okAll_mem ok0 Try.func167 (by kernel_rfl)) (by kernel_rfl) (fun x call => T167 pr0 x call) (fun _ _ _ _ _ => wr2_good)
theorem K83 : FastOk Try.prog 100000 83 W83 := fast_of Try.func83 (okAll_mem ok0 Try.func83 (by kernel_rfl)) (by kernel_rfl) (fun x call => T83 pr0 x call) (fun _ _ _ _ _ => wr2_good)
theorem K166 : FastOk Try.prog 100000 166 W166 := fast_of Try.func166 (okAll_mem ok0 Try.func166 (by kernel_rfl)) (by kernel_rfl) (fun x call => T166 pr0 x call) (fun _ _ _ _ _ => wr2_good)
theorem K136 : FastOk Try.prog 100000 136 W136 := fast_of Try.func136 (okAll_mem ok0 Try.func136 (by kernel_rfl)) (by kernel_rfl) (fun x call => T136 pr0 x call) (fun _ _ _ _ _ => wr2_good)
theorem K165 : FastOk Try.prog 100000 165 W165 := fast_of Try.func165 (okAll_mem ok0 Try.func165 (by kernel_rfl)) (by kernel_rfl) (fun x call => T165 pr0 x call) (fun _ _ _ _ _ => wr1_good)
theorem K163 : FastOk Try.prog 100000 163 W163 := fast_of Try.func163 (okAll_mem ok0 Try.func163 (by kernel_rfl)) (by kernel_rfl) (fun x call => T163 pr0 x call) (fun _ _ _ _ _ => wr1_good)
theorem K79 : FastOk Try.prog 100000 79 W79 := fast_of Try.func79 (okAll_mem ok0 Try.func79 (by kernel_rfl)) (by kernel_rfl) (fun x call => T79 pr0 x call) (fun _ _ _ _ _ => wr2_good)
theorem K87 : FastOk Try.prog 100000 87 W87 := fast_of Try.func87 (okAll_mem ok0 Try.func87 (by kernel_rfl)) (by kernel_rfl) (fun x call => T87 pr0 x call) (fun _ _ _ _ _ => wr2_good)
theorem K37 : FastOk Try.prog 100000 37 W37 := fast_of Try.func37 (okAll_mem ok0 Try.func37 (by kernel_rfl)) (by kernel_rfl) (fun x call => T37 pr0 x call) (fun _ _ _ _ _ => wr1_good)
theorem K92 : FastOk Try.prog 100000 92 W92 := fast_of Try.func92 (okAll_mem ok0 Try.func92 (by kernel_rfl)) (by kernel_rfl) (fun x call => T92 pr0 x call) (fun _ _ _ _ _ => wr2_good)
theorem K90 : FastOk Try.prog 100000 90 W90 := fast_of Try.func90 (okAll_mem ok0 Try.func90 (by kernel_rfl)) (by kernel_rfl) (fun x call => T90 pr0 x call) (fun _ _ _ _ _ => wr2_good)
theorem K35 : FastOk Try.prog 100000 35 W35 := fast_of Try.func35 (okAll_mem ok0 Try.func35 (by kernel_rfl)) (by kernel_rfl) (fun x call => T35 pr0 x call) (fun _ _ _ _ _ => wr3_good)
theorem K132 : FastOk Try.prog 100000 132 W132 := fast_of Try.func132 (okAll_mem ok0 Try.func132 (by kernel_rfl)) (by kernel_rfl) (fun x call => T132 pr0 x call) (fun _ _ _ _ _ => wr1_good)
theorem K175 : FastOk Try.prog 100000 175 W175 := fast_of Try.func175 (okAll_mem ok0 Try.func175 (by kernel_rfl)) (by kernel_rfl) (fun x call => T175 pr0 x call) (fun _ _ _ _ _ => wr1_good)
theorem K80 : FastOk Try.prog 100000 80 W80 := fast_of Try.func80 (okAll_mem ok0 Try.func80 (by kernel_rfl)) (by kernel_rfl) (fun x call => T80 pr0 x call) (fun _ _ _ _ _ => wr4_good)
theorem K164 : FastOk Try.prog 100000 164 W164 := fast_of Try.func164 (okAll_mem ok0 Try.func164 (by kernel_rfl)) (by kernel_rfl) (fun x call => T164 pr0 x call) (fun _ _ _ _ _ => wr1_good)
theorem K133 : FastOk Try.prog 100000 133 W133 := fast_of Try.func133 (okAll_mem ok0 Try.func133 (by kernel_rfl)) (by kernel_rfl) (fun x call => T133 pr0 x call) (fun _ _ _ _ _ => wr3_good)
theorem K111 : FastOk Try.prog 100000 111 W111 := fast_of Try.func111 (okAll_mem ok0 Try.func111 (by kernel_rfl)) (by kernel_rfl) (fun x call => T111 pr0 x call) (fun _ _ _ _ _ => wr2_good)
theorem K203 : FastOk Try.prog 100000 203 W203 := fast_of Try.func203 (okAll_mem ok0 Try.func203 (by kernel_rfl)) (by kernel_rfl) (fun x call => T203 pr0 x call) (fun _ _ _ _ _ => wr5_good)
theorem K94 : FastOk Try.prog 100000 94 W94 := fast_of Try.func94 (okAll_mem ok0 Try.func94 (by kernel_rfl)) (by kernel_rfl) (fun x call => T94 pr0 x call) (fun _ _ _ _ _ => wr2_good)
theorem K61 : FastOk Try.prog 100000 61 W61 := fast_of Try.func61 (okAll_mem ok0 Try.func61 (by kernel_rfl)) (by kernel_rfl) (fun x call => T61 pr0 x call) (fun _ _ _ _ _ => wr1_good)
theorem K44 : FastOk Try.prog 100000 44 W44 := fast_of Try.func44 (okAll_mem ok0 Try.func44 (by kernel_rfl)) (by kernel_rfl) (fun x call => T44 pr0 x call) (fun _ _ _ _ _ => wr4_good)
theorem K97 : FastOk Try.prog 100000 97 W97 := fast_of Try.func97 (okAll_mem ok0 Try.func97 (by kernel_rfl)) (by kernel_rfl) (fun x call => T97 pr0 x call) (fun _ _ _ _ _ => wr1_good)
theorem K148 : FastOk Try.prog 100000 148 W148 := fast_of Try.func148 (okAll_mem ok1 Try.func148 (by kernel_rfl)) (by kernel_rfl) (fun x call => T148 pr0 x call) (fun _ _ _ _ _ => wr2_good)
theorem K47 : FastOk Try.prog 100000 47 W47 := fast_of Try.func47 (okAll_mem ok1 Try.func47 (by kernel_rfl)) (by kernel_rfl) (fun x call => T47 pr0 x call) (fun _ _ _ _ _ => wr2_good)
theorem K89 : FastOk Try.prog 100000 89 W89 := fast_of Try.func89 (okAll_mem ok1 Try.func89 (by kernel_rfl)) (by kernel_rfl) (fun x call => T89 pr0 x call) (fun _ _ _ _ _ => wr3_good)
theorem K88 : FastOk Try.prog 100000 88 W88 := fast_of Try.func88 (okAll_mem ok1 Try.func88 (by kernel_rfl)) (by kernel_rfl) (fun x call => T88 pr0 x call) (fun _ _ _ _ _ => wr1_good)
theorem K81 : FastOk Try.prog 100000 81 W81 := fast_of Try.func81 (okAll_mem ok1 Try.func81 (by kernel_rfl)) (by kernel_rfl) (fun x call => T81 pr0 x call) (fun _ _ _ _ _ => wr3_good)
theorem K60 : FastOk Try.prog 100000 60 W60 := fast_of Try.func60 (okAll_mem ok1 Try.func60 (by kernel_rfl)) (by kernel_rfl) (fun x call => T60 pr0 x call) (fun _ _ _ _ _ => wr3_good)
theorem K42 : FastOk Try.prog 100000 42 W42 := fast_of Try.func42 (okAll_mem ok1 Try.func42 (by kernel_rfl)) (by kernel_rfl) (fun x call => T42 pr0 x call) (fun _ _ _ _ _ => wr5_good)
theorem K36 : FastOk Try.prog 100000 36 W36 := fast_of Try.func36 (okAll_mem ok1 Try.func36 (by kernel_rfl)) (by kernel_rfl) (fun x call => T36 pr0 x call) (fun _ _ _ _ _ => wr2_good)
theorem K156 : FastOk Try.prog 100000 156 W156 := fast_of Try.func156 (okAll_mem ok1 Try.func156 (by kernel_rfl)) (by kernel_rfl) (fun x call => T156 pr0 x call) (fun _ _ _ _ _ => wr2_good)
theorem K114 : FastOk Try.prog 100000 114 W114 := fast_of Try.func114 (okAll_mem ok1 Try.func114 (by kernel_rfl)) (by kernel_rfl) (fun x call => T114 pr0 x call) (fun _ _ _ _ _ => wr2_good)
noncomputable def tab0 : Tab := (T.put (T.put (T.put (T.put (T.put (T.put (T.put (T.put (T.put (T.put (T.put (T.put (T.put (T.put (T.put (T.put (T.put (T.put (T.put (T.put (T.put (T.put (T.put (T.put (T.put (T.put (T.put (T.put (T.put (T.put (T.put (T.put (T.put (T.put (T.put (T.put (T.put (T.put (T.put (T.put .l 142 (some W142)) 85 (some W85)) 140 (some W140)) 96 (some W96)) 91 (some W91)) 145 (some W145)) 143 (some W143)) 95 (some W95)) 116 (some W116)) 93 (some W93)) 141 (some W141)) 171 (some W171)) 139 (some W139)) 150 (some W150)) 149 (some W149)) 146 (some W146)) 117 (some W117)) 167 (some W167)) 83 (some W83)) 166 (some W166)) 136 (some W136)) 165 (some W165)) 163 (some W163)) 79 (some W79)) 87 (some W87)) 37 (some W37)) 92 (some W92)) 90 (some W90)) 35 (some W35)) 132 (some W132)) 175 (some W175)) 80 (some W80)) 164 (some W164)) 133 (some W133)) 111 (some W111)) 203 (some W203)) 94 (some W94)) 61 (some W61)) 44 (some W44)) 97 (some W97))
theorem tabOk0 : TabOk Try.prog 100000 tab0 := (tab_put (tab_put (tab_put (tab_put (tab_put (tab_put (tab_put (tab_put (tab_put (tab_put (tab_put (tab_put (tab_put (tab_put (tab_put (tab_put (tab_put (tab_put (tab_put (tab_put (tab_put (tab_put (tab_put (tab_put (tab_put (tab_put (tab_put (tab_put (tab_put (tab_put (tab_put (tab_put (tab_put (tab_put (tab_put (tab_put (tab_put (tab_put (tab_put (tab_put (tab_nil _) K142) K85) K140) K96) K91) K145) K143) K95) K116) K93) K141) K171) K139) K150) K149) K146) K117) K167) K83) K166) K136) K165) K163) K79) K87) K37) K92) K90) K35) K132) K175) K80) K164) K133) K111) K203) K94) K61) K44) K97)
noncomputable def tab1 : Tab := (T.put (T.put (T.put (T.put (T.put (T.put (T.put (T.put (T.put (T.put tab0 148 (some W148)) 47 (some W47)) 89 (some W89)) 88 (some W88)) 81 (some W81)) 60 (some W60)) 42 (some W42)) 36 (some W36)) 156 (some W156)) 114 (some W114))
theorem tabOk1 : TabOk Try.prog 100000 tab1 := (tab_put (tab_put (tab_put (tab_put (tab_put (tab_put (tab_put (tab_put (tab_put (tab_put tabOk0 K148) K47) K89) K88) K81) K60) K42) K36) K156) K114)
noncomputable abbrev tab : Tab := tab1
theorem tabOk : TabOk Try.prog 100000 tab := tabOk1
end Go.Proofs.Ytfkbofbdonmpfaa.Bodies
