/- What the given program is, laid out once. -/
import Derived.Test.YtpegimipbigmbaaGreatDoorRows
import Derived.Test.YtpegimipbigmbaaGreatDoorM3
namespace Go.Proofs.YtpegimipbigmbaaGreatDoor.Facts
open Go.ChangeShapes Go.WideShapes Go.ChangeAt Go.RowKit Go.Am
theorem sz : Tryz.pinned.checked.prog.types.size = 749 := by kernel_rfl
theorem lc0 : (List.range' 0 110).all (rowFine Tryz.pinned.checked.prog) = true := by kernel_rfl
theorem lc1 : (List.range' 110 110).all (rowFine Tryz.pinned.checked.prog) = true := by kernel_rfl
theorem lc2 : (List.range' 220 110).all (rowFine Tryz.pinned.checked.prog) = true := by kernel_rfl
theorem lc3 : (List.range' 330 110).all (rowFine Tryz.pinned.checked.prog) = true := by kernel_rfl
theorem lc4 : (List.range' 440 110).all (rowFine Tryz.pinned.checked.prog) = true := by kernel_rfl
theorem lc5 : (List.range' 550 110).all (rowFine Tryz.pinned.checked.prog) = true := by kernel_rfl
theorem lc6 : (List.range' 660 89).all (rowFine Tryz.pinned.checked.prog) = true := by kernel_rfl
theorem gl : (Tryz.pinned.checked.prog.globals.all fun g => decide (g.type < Tryz.pinned.checked.prog.types.size)) = true := by kernel_rfl
theorem fl : (Tryz.pinned.checked.prog.funcs.all fun f => f.params.all fun t => decide (t < Tryz.pinned.checked.prog.types.size)) = true := by kernel_rfl
theorem rg : List.range 749 = List.range' 0 110 ++ (List.range' 110 110 ++ (List.range' 220 110 ++ (List.range' 330 110 ++ (List.range' 440 110 ++ (List.range' 550 110 ++ (List.range' 660 89)))))) := by kernel_rfl
theorem all2 {p : Nat → Bool} {a b : List Nat} (h : a.all p = true) (k : b.all p = true) : (a ++ b).all p = true := by rw [List.all_append, h, k]; rfl
theorem ty : (List.range Tryz.pinned.checked.prog.types.size).all (rowFine Tryz.pinned.checked.prog) = true := by
 rw [sz, rg]
 exact (all2 lc0 (all2 lc1 (all2 lc2 (all2 lc3 (all2 lc4 (all2 lc5 lc6))))))
theorem laid : laidOutB Tryz.pinned.checked.prog = true := and2 (and2 ty gl) fl
theorem rowed : mapsRowed Tryz.pinned.checked.prog = true := by kernel_rfl
theorem stops : (Tryz.pinned.checked.prog.stops == []) = true := by kernel_rfl
theorem knobs : (Tryz.pinned.checked.prog.stopKnobs == []) = true := by kernel_rfl
theorem heard : Tryz.pinned.checked.prog.stopsHeard = true := by kernel_rfl
theorem enter : Tryz.pinned.checked.prog.mayEnter = true := by kernel_rfl
theorem own : ownKnob Tryz.prog.godebug = none := by kernel_rfl
theorem kids : Kids Tryz.prog (· < Tryz.prog.types.size) := kids_rows laid rowed
theorem sizes : slicesOk Tryz.prog = true := by kernel_rfl
end Go.Proofs.YtpegimipbigmbaaGreatDoor.Facts
