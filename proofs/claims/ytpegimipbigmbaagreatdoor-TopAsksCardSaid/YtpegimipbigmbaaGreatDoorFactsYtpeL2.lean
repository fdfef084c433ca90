/- The listed variables fit. -/
import Derived.Test.YtpegimipbigmbaaGreatDoorFactsYtpeL1
set_option maxRecDepth 100000
set_option maxHeartbeats 8000000
namespace Go.Proofs.YtpegimipbigmbaaGreatDoor.Facts
open Go
theorem fits (os : Os) : (World.holding Tryz.prog os ⟨#[], #[], []⟩).layFits Tryz.prog LL [] = true := by
 unfold World.layFits
 rw [hsize, lay_eq]
 unfold World.holding World.settled begin; rw [wt]
 as_aux_lemma => kernel_rfl
end Go.Proofs.YtpegimipbigmbaaGreatDoor.Facts
