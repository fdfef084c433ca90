/- The first memory with the listed variables laid: its shape. -/
import Derived.Test.YtpegimipbigmbaaGreatDoorFactsYtpeL2
import Derived.Test.YtpegimipbigmbaaGreatDoorFactsYtpeL3
set_option maxRecDepth 100000
set_option maxHeartbeats 8000000
namespace Go.Proofs.YtpegimipbigmbaaGreatDoor.Facts
open Go
theorem zip (os : Os) (args : Array Value) : ((World.laidAll Tryz.prog os LL).forCall (fun _ _ => 0) ⟨#[], args, []⟩).variablesZipB Tryz.prog = true := by
 rw [laid_eq]
 unfold World.variablesZipB World.holding World.settled begin; rw [wt]
 rw [gs]
 exact all8 (by as_aux_lemma => kernel_rfl) (by as_aux_lemma => kernel_rfl) (by as_aux_lemma => kernel_rfl) (by as_aux_lemma => kernel_rfl) (by as_aux_lemma => kernel_rfl) (by as_aux_lemma => kernel_rfl) (by as_aux_lemma => kernel_rfl) (by as_aux_lemma => kernel_rfl)
theorem rest (os : Os) (args : Array Value) : (((World.laidAll Tryz.prog os LL).forCall (fun _ _ => 0) ⟨#[], args, []⟩).heap.toList.drop Tryz.prog.globals.size).take ((begin Tryz.prog (fun _ _ => 0) default).world.heap.size - Tryz.prog.globals.size) = (begin Tryz.prog (fun _ _ => 0) default).world.heap.toList.drop Tryz.prog.globals.size := by
 rw [laid_eq]
 unfold World.holding World.settled begin; rw [wt]
 rw [gs]
 as_aux_lemma => kernel_rfl
theorem shaped (os : Os) (args : Array Value) : ((World.laidAll Tryz.prog os LL).forCall (fun _ _ => 0) ⟨#[], args, []⟩).Shaped Tryz.prog := World.shaped_of_ZipB (zip os args) (rest os args)
theorem met (os : Os) (args : Array Value) : laidMet Tryz.prog LL ((World.laidAll Tryz.prog os LL).forCall (fun _ _ => 0) ⟨#[], args, []⟩).memory := laidMet_laidAll args (fits os) (ifaces os)
end Go.Proofs.YtpegimipbigmbaaGreatDoor.Facts
