/- What the given program is, laid out once. -/
import Derived.Test.YtbkhielalbbopaaGreatDoorRows
import Derived.Test.YtbkhielalbbopaaGreatDoorM3
set_option linter.unusedSimpArgs false
set_option linter.unusedVariables false
set_option linter.unusedSectionVars false
set_option linter.unnecessarySimpa false
namespace Go.Proofs.YtbkhielalbbopaaGreatDoor.Facts
open Go.ChangeShapes Go.WideShapes Go.ChangeAt Go.RowKit Go.Am
theorem laid : laidOutB Tryz.pinned.checked.prog = true := by kernel_rfl
theorem rowed : mapsRowed Tryz.pinned.checked.prog = true := by kernel_rfl
theorem stops : (Tryz.pinned.checked.prog.stops == []) = true := by kernel_rfl
theorem knobs : (Tryz.pinned.checked.prog.stopKnobs == []) = true := by kernel_rfl
theorem heard : Tryz.pinned.checked.prog.stopsHeard = true := by kernel_rfl
theorem enter : Tryz.pinned.checked.prog.mayEnter = true := by kernel_rfl
theorem own : ownKnob Tryz.prog.godebug = none := by kernel_rfl
theorem kids : Kids Tryz.prog (· < Tryz.prog.types.size) := kids_rows laid rowed
theorem sizes : slicesOk Tryz.prog = true := by kernel_rfl
end Go.Proofs.YtbkhielalbbopaaGreatDoor.Facts
