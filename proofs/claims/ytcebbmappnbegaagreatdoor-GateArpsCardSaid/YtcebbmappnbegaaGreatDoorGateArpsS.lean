/- GateArps: what its pieces ask. -/
import Derived.Test.YtcebbmappnbegaaGreatDoorGateArpsA
set_option linter.unusedSimpArgs false
set_option linter.unusedVariables false
set_option linter.unusedSectionVars false
set_option linter.unnecessarySimpa false
set_option maxRecDepth 100000
namespace Go.Proofs.YtcebbmappnbegaaGreatDoor.gateArps
open Go.Am
theorem utrv : resL (mkX Tryz.prog) ut12.e ut12.h Tryz.f20.results.toList = some [(.p 598 0)] := by kernel_rfl
theorem sk0c5r : Ck09 = .region (rid Ck09) #[opAt Ck09 0, opAt Ck09 1] false := by kernel_rfl
theorem sk0c5a : cls (mkX Tryz.prog) (opAt Ck09 0) = .call := by kernel_rfl
theorem sk0c5b : (opAt Ck09 0).op = .call (callAt (opAt Ck09 0)) := by kernel_rfl
theorem sk0c5d : (callAt (opAt Ck09 0)).callee = .value (.func 20) := by kernel_rfl
theorem sk0c5e : (callAt (opAt Ck09 0)).args.toList = [] := by kernel_rfl
theorem sk0c5f : (opAt Ck09 0).dst = some 26 := by kernel_rfl
theorem sk0c5g : (opAt Ck09 0).guard = none := by kernel_rfl
theorem sk0c5i : (opAt Ck09 1).dst = some 7 := by kernel_rfl
theorem sk0c5j : (opAt Ck09 1).guard = none := by kernel_rfl
theorem sk0c5h : (opAt Ck09 1).op = .move (.tmp 26) ∨ (opAt Ck09 1).op = .assign (.tmp 26) := by first | exact Or.inr (by kernel_rfl) | exact Or.inl (by kernel_rfl)
theorem sk0c5u : okU sk04 ut12 sk05 = true := by kernel_rfl
theorem sk0c5t : sk05.e = (sk04.e.put 26 (some (.p 598 0))).put 7 (some (.p 598 0)) := (sameT_eq (by kernel_rfl)).symm
theorem sk0c5v (ρ : Nat → Int) : valE ρ sk05.e = ((valE ρ sk04.e).put 26 (some (.p 598 0))).put 7 (some (.p 598 0)) := by
  rw [sk0c5t]
  simp only [valE, T.put_mp, Option.map_some]
  rfl
def k0TE : Pt := (.fork (.eq (.v 0) (.c 192)) (.fork (.eq (.v 1) (.c 168)) (.fork (.eq (.v 2) (.c 1)) (.fork (.eq (.v 3) (.c 1)) (.yes (.eq (.v 4) (.v 4)) (.yes (.eq (.v 5) (.v 5)) (.yes (.eq (.v 6) (.v 6)) (.yes (.eq (.v 7) (.v 7)) (.yes (.eq (.v 8) (.v 8)) (.yes (.eq (.v 9) (.v 9)) .done)))))) .done) .done) .done) .done)
theorem k0all (a0 a1 a2 a3 a4 a5 a6 a7 a8 a9 : Int) (l0 : (0 : Int) ≤ a0) (u0 : a0 ≤ (255 : Int)) (l1 : (0 : Int) ≤ a1) (u1 : a1 ≤ (255 : Int)) (l2 : (0 : Int) ≤ a2) (u2 : a2 ≤ (255 : Int)) (l3 : (0 : Int) ≤ a3) (u3 : a3 ≤ (255 : Int)) (l4 : (0 : Int) ≤ a4) (u4 : a4 ≤ (255 : Int)) (l5 : (0 : Int) ≤ a5) (u5 : a5 ≤ (255 : Int)) (l6 : (0 : Int) ≤ a6) (u6 : a6 ≤ (255 : Int)) (l7 : (0 : Int) ≤ a7) (u7 : a7 ≤ (255 : Int)) (l8 : (0 : Int) ≤ a8) (u8 : a8 ≤ (255 : Int)) (l9 : (0 : Int) ≤ a9) (u9 : a9 ≤ (255 : Int)) : k0TE.holds [a0, a1, a2, a3, a4, a5, a6, a7, a8, a9] := (Pt.h_fork (fun (_ : a0 = (192 : Int)) => (Pt.h_fork (fun (_ : a1 = (168 : Int)) => (Pt.h_fork (fun (_ : a2 = (1 : Int)) => (Pt.h_fork (fun (_ : a3 = (1 : Int)) => (Pt.h_yes (show a4 = a4 by omega) (Pt.h_yes (show a5 = a5 by omega) (Pt.h_yes (show a6 = a6 by omega) (Pt.h_yes (show a7 = a7 by omega) (Pt.h_yes (show a8 = a8 by omega) (Pt.h_yes (show a9 = a9 by omega) Pt.h_done))))))) (fun (_ : ¬ a3 = (1 : Int)) => Pt.h_done))) (fun (_ : ¬ a2 = (1 : Int)) => Pt.h_done))) (fun (_ : ¬ a1 = (168 : Int)) => Pt.h_done))) (fun (_ : ¬ a0 = (192 : Int)) => Pt.h_done))
theorem k0fits : k0TE.ok 10 = true := by kernel_rfl
theorem sk1c5r : Ck19 = .region (rid Ck19) #[opAt Ck19 0, opAt Ck19 1] false := by kernel_rfl
theorem sk1c5a : cls (mkX Tryz.prog) (opAt Ck19 0) = .call := by kernel_rfl
theorem sk1c5b : (opAt Ck19 0).op = .call (callAt (opAt Ck19 0)) := by kernel_rfl
theorem sk1c5d : (callAt (opAt Ck19 0)).callee = .value (.func 20) := by kernel_rfl
theorem sk1c5e : (callAt (opAt Ck19 0)).args.toList = [] := by kernel_rfl
theorem sk1c5f : (opAt Ck19 0).dst = some 26 := by kernel_rfl
theorem sk1c5g : (opAt Ck19 0).guard = none := by kernel_rfl
theorem sk1c5i : (opAt Ck19 1).dst = some 7 := by kernel_rfl
theorem sk1c5j : (opAt Ck19 1).guard = none := by kernel_rfl
theorem sk1c5h : (opAt Ck19 1).op = .move (.tmp 26) ∨ (opAt Ck19 1).op = .assign (.tmp 26) := by first | exact Or.inr (by kernel_rfl) | exact Or.inl (by kernel_rfl)
theorem sk1c5u : okU sk14 ut12 sk15 = true := by kernel_rfl
theorem sk1c5t : sk15.e = (sk14.e.put 26 (some (.p 598 0))).put 7 (some (.p 598 0)) := (sameT_eq (by kernel_rfl)).symm
theorem sk1c5v (ρ : Nat → Int) : valE ρ sk15.e = ((valE ρ sk14.e).put 26 (some (.p 598 0))).put 7 (some (.p 598 0)) := by
  rw [sk1c5t]
  simp only [valE, T.put_mp, Option.map_some]
  rfl
def k1TE : Pt := (.fork (.eq (.v 0) (.c 203)) (.fork (.eq (.v 1) (.c 0)) (.fork (.eq (.v 2) (.c 113)) (.fork (.eq (.v 3) (.c 1)) (.yes (.eq (.v 4) (.v 4)) (.yes (.eq (.v 5) (.v 5)) (.yes (.eq (.v 6) (.v 6)) (.yes (.eq (.v 7) (.v 7)) (.yes (.eq (.v 8) (.v 8)) (.yes (.eq (.v 9) (.v 9)) .done)))))) .done) .done) .done) .done)
theorem k1all (a0 a1 a2 a3 a4 a5 a6 a7 a8 a9 : Int) (l0 : (0 : Int) ≤ a0) (u0 : a0 ≤ (255 : Int)) (l1 : (0 : Int) ≤ a1) (u1 : a1 ≤ (255 : Int)) (l2 : (0 : Int) ≤ a2) (u2 : a2 ≤ (255 : Int)) (l3 : (0 : Int) ≤ a3) (u3 : a3 ≤ (255 : Int)) (l4 : (0 : Int) ≤ a4) (u4 : a4 ≤ (255 : Int)) (l5 : (0 : Int) ≤ a5) (u5 : a5 ≤ (255 : Int)) (l6 : (0 : Int) ≤ a6) (u6 : a6 ≤ (255 : Int)) (l7 : (0 : Int) ≤ a7) (u7 : a7 ≤ (255 : Int)) (l8 : (0 : Int) ≤ a8) (u8 : a8 ≤ (255 : Int)) (l9 : (0 : Int) ≤ a9) (u9 : a9 ≤ (255 : Int)) : k1TE.holds [a0, a1, a2, a3, a4, a5, a6, a7, a8, a9] := (Pt.h_fork (fun (_ : a0 = (203 : Int)) => (Pt.h_fork (fun (_ : a1 = (0 : Int)) => (Pt.h_fork (fun (_ : a2 = (113 : Int)) => (Pt.h_fork (fun (_ : a3 = (1 : Int)) => (Pt.h_yes (show a4 = a4 by omega) (Pt.h_yes (show a5 = a5 by omega) (Pt.h_yes (show a6 = a6 by omega) (Pt.h_yes (show a7 = a7 by omega) (Pt.h_yes (show a8 = a8 by omega) (Pt.h_yes (show a9 = a9 by omega) Pt.h_done))))))) (fun (_ : ¬ a3 = (1 : Int)) => Pt.h_done))) (fun (_ : ¬ a2 = (113 : Int)) => Pt.h_done))) (fun (_ : ¬ a1 = (0 : Int)) => Pt.h_done))) (fun (_ : ¬ a0 = (203 : Int)) => Pt.h_done))
theorem k1fits : k1TE.ok 10 = true := by kernel_rfl
def oTE : Pt := (.no (.eq (.v 0) (.c 0)) (.no (.eq (.v 0) (.c 1)) .done))
theorem oall (a0 a1 a2 a3 a4 a5 a6 a7 a8 a9 a10 : Int) (l0 : (-9223372036854775808 : Int) ≤ a0) (u0 : a0 ≤ (9223372036854775807 : Int)) (l1 : (0 : Int) ≤ a1) (u1 : a1 ≤ (255 : Int)) (l2 : (0 : Int) ≤ a2) (u2 : a2 ≤ (255 : Int)) (l3 : (0 : Int) ≤ a3) (u3 : a3 ≤ (255 : Int)) (l4 : (0 : Int) ≤ a4) (u4 : a4 ≤ (255 : Int)) (l5 : (0 : Int) ≤ a5) (u5 : a5 ≤ (255 : Int)) (l6 : (0 : Int) ≤ a6) (u6 : a6 ≤ (255 : Int)) (l7 : (0 : Int) ≤ a7) (u7 : a7 ≤ (255 : Int)) (l8 : (0 : Int) ≤ a8) (u8 : a8 ≤ (255 : Int)) (l9 : (0 : Int) ≤ a9) (u9 : a9 ≤ (255 : Int)) (l10 : (0 : Int) ≤ a10) (u10 : a10 ≤ (255 : Int)) (x0 : a0 < 0 ∨ 1 < a0) : oTE.holds [a0, a1, a2, a3, a4, a5, a6, a7, a8, a9, a10] := (Pt.h_no (show ¬ a0 = (0 : Int) by omega) (Pt.h_no (show ¬ a0 = (1 : Int) by omega) Pt.h_done))
theorem ofits : oTE.ok 11 = true := by kernel_rfl
end Go.Proofs.YtcebbmappnbegaaGreatDoor.gateArps
