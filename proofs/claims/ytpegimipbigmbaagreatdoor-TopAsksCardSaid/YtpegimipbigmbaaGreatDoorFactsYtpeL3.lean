/- The listed interfaces fit. -/
import Derived.Test.YtpegimipbigmbaaGreatDoorFactsYtpeL1
set_option maxRecDepth 100000
set_option maxHeartbeats 8000000
namespace Go.Proofs.YtpegimipbigmbaaGreatDoor.Facts
open Go
theorem ifaces (os : Os) : (World.holding Tryz.prog os ⟨#[], #[], []⟩).layIfaces Tryz.prog LL (World.laidAll Tryz.prog os LL) = true := by
 unfold World.layIfaces
 rw [hsize, lay_eq, laid_eq]
 unfold World.holding World.settled begin; rw [wt]
 as_aux_lemma => kernel_rfl
end Go.Proofs.YtpegimipbigmbaaGreatDoor.Facts
