/- Which variables of the given program wait for a first write: none. -/
import Derived.Test.YtpegimipbigmbaaGreatDoorProg
import Derived.KernelRfl
import Derived.Lay
namespace Go.Proofs.YtpegimipbigmbaaGreatDoor.Facts
open Go
theorem wt : waiting Tryz.prog = #[false, false, false, false, false, false, false, false] := by kernel_rfl
theorem gs : Tryz.prog.globals.size = 8 := by kernel_rfl
theorem all8 {f : Nat → Bool} (h0 : f 0 = true) (h1 : f 1 = true) (h2 : f 2 = true) (h3 : f 3 = true) (h4 : f 4 = true) (h5 : f 5 = true) (h6 : f 6 = true) (h7 : f 7 = true) : (List.range 8).all f = true := by
 rw [show List.range 8 = [0, 1, 2, 3, 4, 5, 6, 7] from rfl]
 simp only [List.all_cons, List.all_nil, h0, h1, h2, h3, h4, h5, h6, h7, Bool.and_true]
end Go.Proofs.YtpegimipbigmbaaGreatDoor.Facts
