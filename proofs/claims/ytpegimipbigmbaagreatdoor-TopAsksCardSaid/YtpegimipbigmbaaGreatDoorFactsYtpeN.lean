/- The laid variables of the given program, where they lie: the look for an error's type by its name, done once. -/
import Derived.Test.YtpegimipbigmbaaGreatDoorProg
import Derived.KernelRfl
import Derived.Lay
set_option maxRecDepth 100000
namespace Go.Proofs.YtpegimipbigmbaaGreatDoor.Facts
open Go
noncomputable abbrev isErr (u : Nat) : Bool := Tryz.prog.typeName? 3 u == some "*errors.errorString"
theorem fn0 : (List.range' 0 93).find? isErr = none := by kernel_rfl
theorem fn1 : (List.range' 93 93).find? isErr = none := by kernel_rfl
theorem fn2 : (List.range' 186 93).find? isErr = none := by kernel_rfl
theorem fn3 : (List.range' 279 93).find? isErr = none := by kernel_rfl
theorem fn4 : (List.range' 372 93).find? isErr = none := by kernel_rfl
theorem fn5 : (List.range' 465 93).find? isErr = none := by kernel_rfl
theorem fn6 : (List.range' 558 93).find? isErr = none := by kernel_rfl
theorem fn7 : (List.range' 651 72).find? isErr = none := by kernel_rfl
theorem fnU : (List.range' 723 26).find? isErr = some 723 := by kernel_rfl
theorem fnN : Tryz.prog.types.size = 749 := by kernel_rfl
theorem find_skip {p : Nat → Bool} {a b : List Nat} (h : a.find? p = none) : (a ++ b).find? p = b.find? p := by rw [List.find?_append, h, Option.none_or]
theorem fnS : List.range 749 = List.range' 0 93 ++ (List.range' 93 93 ++ (List.range' 186 93 ++ (List.range' 279 93 ++ (List.range' 372 93 ++ (List.range' 465 93 ++ (List.range' 558 93 ++ (List.range' 651 72 ++ (List.range' 723 26)))))))) := by kernel_rfl
theorem find_err : (List.range Tryz.prog.types.size).find? (fun u => Tryz.prog.typeName? 3 u == some "*errors.errorString") = some 723 := by
 rw [fnN, fnS]
 show List.find? isErr _ = _
 rw [find_skip fn0, find_skip fn1, find_skip fn2, find_skip fn3, find_skip fn4, find_skip fn5, find_skip fn6, find_skip fn7, fnU]
end Go.Proofs.YtpegimipbigmbaaGreatDoor.Facts
