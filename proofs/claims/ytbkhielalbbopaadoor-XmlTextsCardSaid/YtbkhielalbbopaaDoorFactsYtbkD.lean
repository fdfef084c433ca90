/- What the given program is, laid out once. -/
import Derived.Test.YtbkhielalbbopaaDoorRows
import Derived.Test.YtbkhielalbbopaaDoorM3
set_option linter.unusedSimpArgs false
set_option linter.unusedVariables false
set_option linter.unusedSectionVars false
set_option linter.unnecessarySimpa false
namespace Go.Proofs.YtbkhielalbbopaaDoor.Facts
open Go.ChangeShapes Go.WideShapes Go.ChangeAt Go.RowKit Go.Am

theorem laid : laidOutB Tryd.pinned.checked.prog = true := by kernel_rfl
theorem rowed : mapsRowed Tryd.pinned.checked.prog = true := by kernel_rfl
theorem stops : (Tryd.pinned.checked.prog.stops == []) = true := by kernel_rfl
theorem knobs : (Tryd.pinned.checked.prog.stopKnobs == []) = true := by kernel_rfl
theorem heard : Tryd.pinned.checked.prog.stopsHeard = true := by kernel_rfl
theorem enter : Tryd.pinned.checked.prog.mayEnter = true := by kernel_rfl
theorem own : ownKnob Tryd.prog.godebug = none := by kernel_rfl
theorem kids : Kids Tryd.prog (· < Tryd.prog.types.size) := kids_rows laid rowed
theorem sizes : slicesOk Tryd.prog = true := by kernel_rfl
end Go.Proofs.YtbkhielalbbopaaDoor.Facts
