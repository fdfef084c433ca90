/- TopFaults: what its pieces ask. -/
import Derived.Test.YtcebbmappnbegaaGreatDoorTopFaultsA
set_option linter.unusedSimpArgs false
set_option linter.unusedVariables false
set_option linter.unusedSectionVars false
set_option linter.unnecessarySimpa false
set_option maxRecDepth 100000
namespace Go.Proofs.YtcebbmappnbegaaGreatDoor.topFaults
open Go.Am
theorem utrv : resL (mkX Tryz.prog) ut12.e ut12.h Tryz.f40.results.toList = some [(.p 415 0)] := by kernel_rfl
theorem sk0c4r : Ck07 = .region (rid Ck07) #[opAt Ck07 0, opAt Ck07 1] false := by kernel_rfl
theorem sk0c4a : cls (mkX Tryz.prog) (opAt Ck07 0) = .call := by kernel_rfl
theorem sk0c4b : (opAt Ck07 0).op = .call (callAt (opAt Ck07 0)) := by kernel_rfl
theorem sk0c4d : (callAt (opAt Ck07 0)).callee = .value (.func 40) := by kernel_rfl
theorem sk0c4e : (callAt (opAt Ck07 0)).args.toList = [] := by kernel_rfl
theorem sk0c4f : (opAt Ck07 0).dst = some 29 := by kernel_rfl
theorem sk0c4g : (opAt Ck07 0).guard = none := by kernel_rfl
theorem sk0c4i : (opAt Ck07 1).dst = some 7 := by kernel_rfl
theorem sk0c4j : (opAt Ck07 1).guard = none := by kernel_rfl
theorem sk0c4h : (opAt Ck07 1).op = .move (.tmp 29) ∨ (opAt Ck07 1).op = .assign (.tmp 29) := by first | exact Or.inr (by kernel_rfl) | exact Or.inl (by kernel_rfl)
theorem sk0c4u : okU sk03 ut12 sk04 = true := by kernel_rfl
theorem sk0c4t : sk04.e = (sk03.e.put 29 (some (.p 415 0))).put 7 (some (.p 415 0)) := (sameT_eq (by kernel_rfl)).symm
theorem sk0c4v (ρ : Nat → Int) : valE ρ sk04.e = ((valE ρ sk03.e).put 29 (some (.p 415 0))).put 7 (some (.p 415 0)) := by
  rw [sk0c4t]
  simp only [valE, T.put_mp, Option.map_some]
  rfl
theorem sk1c4r : Ck17 = .region (rid Ck17) #[opAt Ck17 0, opAt Ck17 1] false := by kernel_rfl
theorem sk1c4a : cls (mkX Tryz.prog) (opAt Ck17 0) = .call := by kernel_rfl
theorem sk1c4b : (opAt Ck17 0).op = .call (callAt (opAt Ck17 0)) := by kernel_rfl
theorem sk1c4d : (callAt (opAt Ck17 0)).callee = .value (.func 40) := by kernel_rfl
theorem sk1c4e : (callAt (opAt Ck17 0)).args.toList = [] := by kernel_rfl
theorem sk1c4f : (opAt Ck17 0).dst = some 29 := by kernel_rfl
theorem sk1c4g : (opAt Ck17 0).guard = none := by kernel_rfl
theorem sk1c4i : (opAt Ck17 1).dst = some 7 := by kernel_rfl
theorem sk1c4j : (opAt Ck17 1).guard = none := by kernel_rfl
theorem sk1c4h : (opAt Ck17 1).op = .move (.tmp 29) ∨ (opAt Ck17 1).op = .assign (.tmp 29) := by first | exact Or.inr (by kernel_rfl) | exact Or.inl (by kernel_rfl)
theorem sk1c4u : okU sk13 ut12 sk14 = true := by kernel_rfl
theorem sk1c4t : sk14.e = (sk13.e.put 29 (some (.p 415 0))).put 7 (some (.p 415 0)) := (sameT_eq (by kernel_rfl)).symm
theorem sk1c4v (ρ : Nat → Int) : valE ρ sk14.e = ((valE ρ sk13.e).put 29 (some (.p 415 0))).put 7 (some (.p 415 0)) := by
  rw [sk1c4t]
  simp only [valE, T.put_mp, Option.map_some]
  rfl
theorem sk2c4r : Ck27 = .region (rid Ck27) #[opAt Ck27 0, opAt Ck27 1] false := by kernel_rfl
theorem sk2c4a : cls (mkX Tryz.prog) (opAt Ck27 0) = .call := by kernel_rfl
theorem sk2c4b : (opAt Ck27 0).op = .call (callAt (opAt Ck27 0)) := by kernel_rfl
theorem sk2c4d : (callAt (opAt Ck27 0)).callee = .value (.func 40) := by kernel_rfl
theorem sk2c4e : (callAt (opAt Ck27 0)).args.toList = [] := by kernel_rfl
theorem sk2c4f : (opAt Ck27 0).dst = some 29 := by kernel_rfl
theorem sk2c4g : (opAt Ck27 0).guard = none := by kernel_rfl
theorem sk2c4i : (opAt Ck27 1).dst = some 7 := by kernel_rfl
theorem sk2c4j : (opAt Ck27 1).guard = none := by kernel_rfl
theorem sk2c4h : (opAt Ck27 1).op = .move (.tmp 29) ∨ (opAt Ck27 1).op = .assign (.tmp 29) := by first | exact Or.inr (by kernel_rfl) | exact Or.inl (by kernel_rfl)
theorem sk2c4u : okU sk23 ut12 sk24 = true := by kernel_rfl
theorem sk2c4t : sk24.e = (sk23.e.put 29 (some (.p 415 0))).put 7 (some (.p 415 0)) := (sameT_eq (by kernel_rfl)).symm
theorem sk2c4v (ρ : Nat → Int) : valE ρ sk24.e = ((valE ρ sk23.e).put 29 (some (.p 415 0))).put 7 (some (.p 415 0)) := by
  rw [sk2c4t]
  simp only [valE, T.put_mp, Option.map_some]
  rfl
def oTE : Pt := (.fork (.lt (.v 0) (.c 0)) .done (.fork (.lt (.c 2) (.v 0)) .done (.fork (.lt (.v 2) (.c 1)) .done (.yes (.lt (.c 65535) (.v 2)) .done))))
theorem oall (a0 a1 a2 : Int) (l0 : (-9223372036854775808 : Int) ≤ a0) (u0 : a0 ≤ (9223372036854775807 : Int)) (l1 : (-9223372036854775808 : Int) ≤ a1) (u1 : a1 ≤ (9223372036854775807 : Int)) (l2 : (-9223372036854775808 : Int) ≤ a2) (u2 : a2 ≤ (9223372036854775807 : Int)) (x0 : a0 < 0 ∨ 2 < a0 ∨ a2 < 1 ∨ 65535 < a2) : oTE.holds [a0, a1, a2] := (Pt.h_fork (fun (_ : a0 < (0 : Int)) => Pt.h_done) (fun (_ : ¬ a0 < (0 : Int)) => (Pt.h_fork (fun (_ : (2 : Int) < a0) => Pt.h_done) (fun (_ : ¬ (2 : Int) < a0) => (Pt.h_fork (fun (_ : a2 < (1 : Int)) => Pt.h_done) (fun (_ : ¬ a2 < (1 : Int)) => (Pt.h_yes (show (65535 : Int) < a2 by omega) Pt.h_done)))))))
theorem ofits : oTE.ok 3 = true := by kernel_rfl
end Go.Proofs.YtcebbmappnbegaaGreatDoor.topFaults
