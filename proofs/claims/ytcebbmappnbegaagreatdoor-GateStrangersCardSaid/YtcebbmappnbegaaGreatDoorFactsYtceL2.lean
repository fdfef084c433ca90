/- The listed variables fit. -/
import Derived.Test.YtcebbmappnbegaaGreatDoorFactsYtceL1
set_option linter.unusedSimpArgs false
set_option linter.unusedVariables false
set_option linter.unusedSectionVars false
set_option linter.unnecessarySimpa false
set_option maxRecDepth 100000
set_option maxHeartbeats 8000000
namespace Go.Proofs.YtcebbmappnbegaaGreatDoor.Facts
open Go
theorem fits (os : Os) : (World.holding Tryz.prog os ⟨#[], #[], []⟩).layFits Tryz.prog LL [] = true := by
  unfold World.layFits
  rw [hsize, lay_eq]
  unfold World.holding World.settled begin; rw [wt]
  as_aux_lemma => kernel_rfl
end Go.Proofs.YtcebbmappnbegaaGreatDoor.Facts
