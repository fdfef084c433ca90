/- GateShut: what its pieces ask. -/
import Derived.Test.YtcebbmappnbegaaGreatDoorGateShutA
set_option linter.unusedSimpArgs false
set_option linter.unusedVariables false
set_option linter.unusedSectionVars false
set_option linter.unnecessarySimpa false
set_option maxRecDepth 100000
namespace Go.Proofs.YtcebbmappnbegaaGreatDoor.gateShut
open Go.Am
theorem utrv : resL (mkX Tryz.prog) ut12.e ut12.h Tryz.f20.results.toList = some [(.p 596 0)] := by kernel_rfl
def saT4 : Pt := (.no (.lt (.v 1) (.c 1)) (.no (.lt (.c 65535) (.v 1)) (.no (.eq (.v 1) (.c 68)) (.no (.lt (.v 2) (.c 0)) (.no (.lt (.c 65535) (.v 2)) .done)))))
theorem sah4 (a0 a1 a2 a3 : Int) (l0 : (-9223372036854775808 : Int) ≤ a0) (u0 : a0 ≤ (9223372036854775807 : Int)) (l1 : (69 : Int) ≤ a1) (u1 : a1 ≤ (65535 : Int)) (l2 : (0 : Int) ≤ a2) (u2 : a2 ≤ (65535 : Int)) (l3 : (-9223372036854775808 : Int) ≤ a3) (u3 : a3 ≤ (9223372036854775807 : Int)) : saT4.holds [a0, a1, a2, a3] := (Pt.h_no (show ¬ a1 < (1 : Int) by omega) (Pt.h_no (show ¬ (65535 : Int) < a1 by omega) (Pt.h_no (show ¬ a1 = (68 : Int) by omega) (Pt.h_no (show ¬ a2 < (0 : Int) by omega) (Pt.h_no (show ¬ (65535 : Int) < a2 by omega) Pt.h_done)))))
theorem sac5r : Ca9 = .region (rid Ca9) #[opAt Ca9 0, opAt Ca9 1] false := by kernel_rfl
theorem sac5a : cls (mkX Tryz.prog) (opAt Ca9 0) = .call := by kernel_rfl
theorem sac5b : (opAt Ca9 0).op = .call (callAt (opAt Ca9 0)) := by kernel_rfl
theorem sac5d : (callAt (opAt Ca9 0)).callee = .value (.func 20) := by kernel_rfl
theorem sac5e : (callAt (opAt Ca9 0)).args.toList = [] := by kernel_rfl
theorem sac5f : (opAt Ca9 0).dst = some 33 := by kernel_rfl
theorem sac5g : (opAt Ca9 0).guard = none := by kernel_rfl
theorem sac5i : (opAt Ca9 1).dst = some 9 := by kernel_rfl
theorem sac5j : (opAt Ca9 1).guard = none := by kernel_rfl
theorem sac5h : (opAt Ca9 1).op = .move (.tmp 33) ∨ (opAt Ca9 1).op = .assign (.tmp 33) := by first | exact Or.inr (by kernel_rfl) | exact Or.inl (by kernel_rfl)
theorem sac5u : okU sa4 ut12 sa5 = true := by kernel_rfl
theorem sac5t : sa5.e = (sa4.e.put 33 (some (.p 596 0))).put 9 (some (.p 596 0)) := (sameT_eq (by kernel_rfl)).symm
theorem sac5v (ρ : Nat → Int) : valE ρ sa5.e = ((valE ρ sa4.e).put 33 (some (.p 596 0))).put 9 (some (.p 596 0)) := by
  rw [sac5t]
  simp only [valE, T.put_mp, Option.map_some]
  rfl
def sbT4 : Pt := (.no (.lt (.v 1) (.c 1)) (.no (.lt (.c 65535) (.v 1)) (.no (.eq (.v 1) (.c 68)) (.no (.lt (.v 2) (.c 0)) (.no (.lt (.c 65535) (.v 2)) .done)))))
theorem sbh4 (a0 a1 a2 a3 : Int) (l0 : (-9223372036854775808 : Int) ≤ a0) (u0 : a0 ≤ (9223372036854775807 : Int)) (l1 : (1 : Int) ≤ a1) (u1 : a1 ≤ (67 : Int)) (l2 : (0 : Int) ≤ a2) (u2 : a2 ≤ (65535 : Int)) (l3 : (-9223372036854775808 : Int) ≤ a3) (u3 : a3 ≤ (9223372036854775807 : Int)) : sbT4.holds [a0, a1, a2, a3] := (Pt.h_no (show ¬ a1 < (1 : Int) by omega) (Pt.h_no (show ¬ (65535 : Int) < a1 by omega) (Pt.h_no (show ¬ a1 = (68 : Int) by omega) (Pt.h_no (show ¬ a2 < (0 : Int) by omega) (Pt.h_no (show ¬ (65535 : Int) < a2 by omega) Pt.h_done)))))
theorem sbc5r : Cb9 = .region (rid Cb9) #[opAt Cb9 0, opAt Cb9 1] false := by kernel_rfl
theorem sbc5a : cls (mkX Tryz.prog) (opAt Cb9 0) = .call := by kernel_rfl
theorem sbc5b : (opAt Cb9 0).op = .call (callAt (opAt Cb9 0)) := by kernel_rfl
theorem sbc5d : (callAt (opAt Cb9 0)).callee = .value (.func 20) := by kernel_rfl
theorem sbc5e : (callAt (opAt Cb9 0)).args.toList = [] := by kernel_rfl
theorem sbc5f : (opAt Cb9 0).dst = some 33 := by kernel_rfl
theorem sbc5g : (opAt Cb9 0).guard = none := by kernel_rfl
theorem sbc5i : (opAt Cb9 1).dst = some 9 := by kernel_rfl
theorem sbc5j : (opAt Cb9 1).guard = none := by kernel_rfl
theorem sbc5h : (opAt Cb9 1).op = .move (.tmp 33) ∨ (opAt Cb9 1).op = .assign (.tmp 33) := by first | exact Or.inr (by kernel_rfl) | exact Or.inl (by kernel_rfl)
theorem sbc5u : okU sb4 ut12 sb5 = true := by kernel_rfl
theorem sbc5t : sb5.e = (sb4.e.put 33 (some (.p 596 0))).put 9 (some (.p 596 0)) := (sameT_eq (by kernel_rfl)).symm
theorem sbc5v (ρ : Nat → Int) : valE ρ sb5.e = ((valE ρ sb4.e).put 33 (some (.p 596 0))).put 9 (some (.p 596 0)) := by
  rw [sbc5t]
  simp only [valE, T.put_mp, Option.map_some]
  rfl
def oTE : Pt := (.fork (.lt (.v 1) (.c 1)) .done (.fork (.lt (.c 65535) (.v 1)) .done (.fork (.eq (.v 1) (.c 68)) .done (.fork (.lt (.v 2) (.c 0)) .done (.yes (.lt (.c 65535) (.v 2)) .done)))))
theorem oall (a0 a1 a2 a3 : Int) (l0 : (-9223372036854775808 : Int) ≤ a0) (u0 : a0 ≤ (9223372036854775807 : Int)) (l1 : (-9223372036854775808 : Int) ≤ a1) (u1 : a1 ≤ (9223372036854775807 : Int)) (l2 : (-9223372036854775808 : Int) ≤ a2) (u2 : a2 ≤ (9223372036854775807 : Int)) (l3 : (-9223372036854775808 : Int) ≤ a3) (u3 : a3 ≤ (9223372036854775807 : Int)) (x0 : a1 < 1 ∨ 65535 < a1 ∨ a1 = 68 ∨ a2 < 0 ∨ 65535 < a2) : oTE.holds [a0, a1, a2, a3] := (Pt.h_fork (fun (_ : a1 < (1 : Int)) => Pt.h_done) (fun (_ : ¬ a1 < (1 : Int)) => (Pt.h_fork (fun (_ : (65535 : Int) < a1) => Pt.h_done) (fun (_ : ¬ (65535 : Int) < a1) => (Pt.h_fork (fun (_ : a1 = (68 : Int)) => Pt.h_done) (fun (_ : ¬ a1 = (68 : Int)) => (Pt.h_fork (fun (_ : a2 < (0 : Int)) => Pt.h_done) (fun (_ : ¬ a2 < (0 : Int)) => (Pt.h_yes (show (65535 : Int) < a2 by omega) Pt.h_done)))))))))
end Go.Proofs.YtcebbmappnbegaaGreatDoor.gateShut
