/- GateTtl: what its pieces ask. -/
import Derived.Test.YtcebbmappnbegaaGreatDoorGateTtlA
set_option linter.unusedSimpArgs false
set_option linter.unusedVariables false
set_option linter.unusedSectionVars false
set_option linter.unnecessarySimpa false
set_option maxRecDepth 100000
namespace Go.Proofs.YtcebbmappnbegaaGreatDoor.gateTtl
open Go.Am
theorem utrv : resL (mkX Tryz.prog) ut12.e ut12.h Tryz.f20.results.toList = some [(.p 596 0)] := by kernel_rfl
def sk0T4 : Pt := (.no (.lt (.v 1) (.c 0)) (.no (.lt (.c 255) (.v 1)) .done))
theorem sk0h4 (a0 a1 : Int) (l0 : (-9223372036854775808 : Int) ≤ a0) (u0 : a0 ≤ (9223372036854775807 : Int)) (l1 : (0 : Int) ≤ a1) (u1 : a1 ≤ (255 : Int)) : sk0T4.holds [a0, a1] := (Pt.h_no (show ¬ a1 < (0 : Int) by omega) (Pt.h_no (show ¬ (255 : Int) < a1 by omega) Pt.h_done))
theorem sk0c5r : Ck09 = .region (rid Ck09) #[opAt Ck09 0, opAt Ck09 1] false := by kernel_rfl
theorem sk0c5a : cls (mkX Tryz.prog) (opAt Ck09 0) = .call := by kernel_rfl
theorem sk0c5b : (opAt Ck09 0).op = .call (callAt (opAt Ck09 0)) := by kernel_rfl
theorem sk0c5d : (callAt (opAt Ck09 0)).callee = .value (.func 20) := by kernel_rfl
theorem sk0c5e : (callAt (opAt Ck09 0)).args.toList = [] := by kernel_rfl
theorem sk0c5f : (opAt Ck09 0).dst = some 30 := by kernel_rfl
theorem sk0c5g : (opAt Ck09 0).guard = none := by kernel_rfl
theorem sk0c5i : (opAt Ck09 1).dst = some 7 := by kernel_rfl
theorem sk0c5j : (opAt Ck09 1).guard = none := by kernel_rfl
theorem sk0c5h : (opAt Ck09 1).op = .move (.tmp 30) ∨ (opAt Ck09 1).op = .assign (.tmp 30) := by first | exact Or.inr (by kernel_rfl) | exact Or.inl (by kernel_rfl)
theorem sk0c5u : okU sk04 ut12 sk05 = true := by kernel_rfl
theorem sk0c5t : sk05.e = (sk04.e.put 30 (some (.p 596 0))).put 7 (some (.p 596 0)) := (sameT_eq (by kernel_rfl)).symm
theorem sk0c5v (ρ : Nat → Int) : valE ρ sk05.e = ((valE ρ sk04.e).put 30 (some (.p 596 0))).put 7 (some (.p 596 0)) := by
  rw [sk0c5t]
  simp only [valE, T.put_mp, Option.map_some]
  rfl
def sk1T4 : Pt := (.no (.lt (.v 1) (.c 0)) (.no (.lt (.c 255) (.v 1)) .done))
theorem sk1h4 (a0 a1 : Int) (l0 : (-9223372036854775808 : Int) ≤ a0) (u0 : a0 ≤ (9223372036854775807 : Int)) (l1 : (0 : Int) ≤ a1) (u1 : a1 ≤ (255 : Int)) : sk1T4.holds [a0, a1] := (Pt.h_no (show ¬ a1 < (0 : Int) by omega) (Pt.h_no (show ¬ (255 : Int) < a1 by omega) Pt.h_done))
theorem sk1c5r : Ck19 = .region (rid Ck19) #[opAt Ck19 0, opAt Ck19 1] false := by kernel_rfl
theorem sk1c5a : cls (mkX Tryz.prog) (opAt Ck19 0) = .call := by kernel_rfl
theorem sk1c5b : (opAt Ck19 0).op = .call (callAt (opAt Ck19 0)) := by kernel_rfl
theorem sk1c5d : (callAt (opAt Ck19 0)).callee = .value (.func 20) := by kernel_rfl
theorem sk1c5e : (callAt (opAt Ck19 0)).args.toList = [] := by kernel_rfl
theorem sk1c5f : (opAt Ck19 0).dst = some 30 := by kernel_rfl
theorem sk1c5g : (opAt Ck19 0).guard = none := by kernel_rfl
theorem sk1c5i : (opAt Ck19 1).dst = some 7 := by kernel_rfl
theorem sk1c5j : (opAt Ck19 1).guard = none := by kernel_rfl
theorem sk1c5h : (opAt Ck19 1).op = .move (.tmp 30) ∨ (opAt Ck19 1).op = .assign (.tmp 30) := by first | exact Or.inr (by kernel_rfl) | exact Or.inl (by kernel_rfl)
theorem sk1c5u : okU sk14 ut12 sk15 = true := by kernel_rfl
theorem sk1c5t : sk15.e = (sk14.e.put 30 (some (.p 596 0))).put 7 (some (.p 596 0)) := (sameT_eq (by kernel_rfl)).symm
theorem sk1c5v (ρ : Nat → Int) : valE ρ sk15.e = ((valE ρ sk14.e).put 30 (some (.p 596 0))).put 7 (some (.p 596 0)) := by
  rw [sk1c5t]
  simp only [valE, T.put_mp, Option.map_some]
  rfl
def sk2T4 : Pt := (.no (.lt (.v 1) (.c 0)) (.no (.lt (.c 255) (.v 1)) .done))
theorem sk2h4 (a0 a1 : Int) (l0 : (-9223372036854775808 : Int) ≤ a0) (u0 : a0 ≤ (9223372036854775807 : Int)) (l1 : (0 : Int) ≤ a1) (u1 : a1 ≤ (255 : Int)) : sk2T4.holds [a0, a1] := (Pt.h_no (show ¬ a1 < (0 : Int) by omega) (Pt.h_no (show ¬ (255 : Int) < a1 by omega) Pt.h_done))
theorem sk2c5r : Ck29 = .region (rid Ck29) #[opAt Ck29 0, opAt Ck29 1] false := by kernel_rfl
theorem sk2c5a : cls (mkX Tryz.prog) (opAt Ck29 0) = .call := by kernel_rfl
theorem sk2c5b : (opAt Ck29 0).op = .call (callAt (opAt Ck29 0)) := by kernel_rfl
theorem sk2c5d : (callAt (opAt Ck29 0)).callee = .value (.func 20) := by kernel_rfl
theorem sk2c5e : (callAt (opAt Ck29 0)).args.toList = [] := by kernel_rfl
theorem sk2c5f : (opAt Ck29 0).dst = some 30 := by kernel_rfl
theorem sk2c5g : (opAt Ck29 0).guard = none := by kernel_rfl
theorem sk2c5i : (opAt Ck29 1).dst = some 7 := by kernel_rfl
theorem sk2c5j : (opAt Ck29 1).guard = none := by kernel_rfl
theorem sk2c5h : (opAt Ck29 1).op = .move (.tmp 30) ∨ (opAt Ck29 1).op = .assign (.tmp 30) := by first | exact Or.inr (by kernel_rfl) | exact Or.inl (by kernel_rfl)
theorem sk2c5u : okU sk24 ut12 sk25 = true := by kernel_rfl
theorem sk2c5t : sk25.e = (sk24.e.put 30 (some (.p 596 0))).put 7 (some (.p 596 0)) := (sameT_eq (by kernel_rfl)).symm
theorem sk2c5v (ρ : Nat → Int) : valE ρ sk25.e = ((valE ρ sk24.e).put 30 (some (.p 596 0))).put 7 (some (.p 596 0)) := by
  rw [sk2c5t]
  simp only [valE, T.put_mp, Option.map_some]
  rfl
def oTE : Pt := (.fork (.lt (.v 0) (.c 0)) .done (.fork (.lt (.c 2) (.v 0)) .done (.fork (.lt (.v 2) (.c 0)) .done (.yes (.lt (.c 255) (.v 2)) .done))))
theorem oall (a0 a1 a2 : Int) (l0 : (-9223372036854775808 : Int) ≤ a0) (u0 : a0 ≤ (9223372036854775807 : Int)) (l1 : (-9223372036854775808 : Int) ≤ a1) (u1 : a1 ≤ (9223372036854775807 : Int)) (l2 : (-9223372036854775808 : Int) ≤ a2) (u2 : a2 ≤ (9223372036854775807 : Int)) (x0 : a0 < 0 ∨ 2 < a0 ∨ a2 < 0 ∨ 255 < a2) : oTE.holds [a0, a1, a2] := (Pt.h_fork (fun (_ : a0 < (0 : Int)) => Pt.h_done) (fun (_ : ¬ a0 < (0 : Int)) => (Pt.h_fork (fun (_ : (2 : Int) < a0) => Pt.h_done) (fun (_ : ¬ (2 : Int) < a0) => (Pt.h_fork (fun (_ : a2 < (0 : Int)) => Pt.h_done) (fun (_ : ¬ a2 < (0 : Int)) => (Pt.h_yes (show (255 : Int) < a2 by omega) Pt.h_done)))))))
end Go.Proofs.YtcebbmappnbegaaGreatDoor.gateTtl
