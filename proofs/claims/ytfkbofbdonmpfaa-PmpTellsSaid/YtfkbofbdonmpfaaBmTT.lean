/- The table of the ready bodies. -/
import Derived.Test.YtfkbofbdonmpfaaM4
import Derived.Test.YtfkbofbdonmpfaaBmT0
set_option linter.unusedSimpArgs false
set_option linter.unusedVariables false
set_option linter.unusedSectionVars false
set_option linter.unnecessarySimpa false
set_option maxRecDepth 100000
namespace Go.Proofs.Ytfkbofbdonmpfaa.Bodies
open Go.Am
theorem xc : xClean (mkX Try.prog) = true := by kernel_rfl
theorem ok0 : okAll Try.prog [19, 57, 59, 105, 112, 113, 155] = true := by kernel_rfl
theorem K19 : FastOk Try.prog 100000 19 W19 := fast_of Try.func19 (okAll_mem ok0 Try.func19 (by kernel_rfl)) (by kernel_rfl) (fun x call => T19 pr0 x call) (fun _ _ _ _ _ => wr2_good)
theorem K57 : FastOk Try.prog 100000 57 W57 := fast_of Try.func57 (okAll_mem ok0 Try.func57 (by kernel_rfl)) (by kernel_rfl) (fun x call => T57 pr0 x call) (fun _ _ _ _ _ => wr0_good)
theorem K59 : FastOk Try.prog 100000 59 W59 := fast_of Try.func59 (okAll_mem ok0 Try.func59 (by kernel_rfl)) (by kernel_rfl) (fun x call => T59 pr0 x call) (fun _ _ _ _ _ => wr3_good)
theorem K105 : FastOk Try.prog 100000 105 W105 := fast_of Try.func105 (okAll_mem ok0 Try.func105 (by kernel_rfl)) (by kernel_rfl) (fun x call => T105 pr0 x call) (fun _ _ _ _ _ => wr4_good)
theorem K112 : FastOk Try.prog 100000 112 W112 := fast_of Try.func112 (okAll_mem ok0 Try.func112 (by kernel_rfl)) (by kernel_rfl) (fun x call => T112 pr0 x call) (fun _ _ _ _ _ => wr2_good)
theorem K113 : FastOk Try.prog 100000 113 W113 := fast_of Try.func113 (okAll_mem ok0 Try.func113 (by kernel_rfl)) (by kernel_rfl) (fun x call => T113 pr0 x call) (fun _ _ _ _ _ => wr2_good)
theorem K155 : FastOk Try.prog 100000 155 W155 := fast_of Try.func155 (okAll_mem ok0 Try.func155 (by kernel_rfl)) (by kernel_rfl) (fun x call => T155 pr0 x call) (fun _ _ _ _ _ => wr2_good)
noncomputable def tab0 : Tab := (T.put (T.put (T.put (T.put (T.put (T.put (T.put .l 19 (some W19)) 57 (some W57)) 59 (some W59)) 105 (some W105)) 112 (some W112)) 113 (some W113)) 155 (some W155))
theorem tabOk0 : TabOk Try.prog 100000 tab0 := (tab_put (tab_put (tab_put (tab_put (tab_put (tab_put (tab_put (tab_nil _) K19) K57) K59) K105) K112) K113) K155)
noncomputable abbrev tab : Tab := tab0
theorem tabOk : TabOk Try.prog 100000 tab := tabOk0
end Go.Proofs.Ytfkbofbdonmpfaa.Bodies
