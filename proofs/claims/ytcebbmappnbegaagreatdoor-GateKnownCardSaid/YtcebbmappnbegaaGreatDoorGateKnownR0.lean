/- GateKnown: pieces of its run. -/
import Derived.Test.YtcebbmappnbegaaGreatDoorGateKnownA
import Derived.Test.YtcebbmappnbegaaGreatDoorYtceLx
set_option linter.unusedSimpArgs false
set_option linter.unusedVariables false
set_option linter.unusedSectionVars false
set_option linter.unnecessarySimpa false
set_option maxRecDepth 100000
namespace Go.Proofs.YtcebbmappnbegaaGreatDoor.gateKnown
open Go.Am Go.Proofs.YtcebbmappnbegaaGreatDoor.Facts
theorem utp1 : runP Tryz.prog Bodies.tabO 98 [.s K1, .s K3, .s K5, .s K7] ut0 ut1 0 Pt.done.orc = Pt.done.tr 0 := runP_x lx (by kernel_rfl)
theorem utrv : resL (mkX Tryz.prog) ut12.e ut12.h Tryz.f20.results.toList = some [(.p 599 0)] := by kernel_rfl
theorem stc4r : C9 = .region (rid C9) #[opAt C9 0, opAt C9 1] false := by kernel_rfl
theorem stc4a : cls (mkX Tryz.prog) (opAt C9 0) = .call := by kernel_rfl
theorem stc4b : (opAt C9 0).op = .call (callAt (opAt C9 0)) := by kernel_rfl
theorem stc4d : (callAt (opAt C9 0)).callee = .value (.func 20) := by kernel_rfl
theorem stc4e : (callAt (opAt C9 0)).args.toList = [] := by kernel_rfl
theorem stc4f : (opAt C9 0).dst = some 17 := by kernel_rfl
theorem stc4g : (opAt C9 0).guard = none := by kernel_rfl
theorem stc4i : (opAt C9 1).dst = some 3 := by kernel_rfl
theorem stc4j : (opAt C9 1).guard = none := by kernel_rfl
theorem stc4h : (opAt C9 1).op = .move (.tmp 17) ∨ (opAt C9 1).op = .assign (.tmp 17) := by first | exact Or.inr (by kernel_rfl) | exact Or.inl (by kernel_rfl)
theorem stc4u : okU st3 ut12 st4 = true := by kernel_rfl
theorem stc4t : st4.e = (st3.e.put 17 (some (.p 599 0))).put 3 (some (.p 599 0)) := (sameT_eq (by kernel_rfl)).symm
theorem stc4v (ρ : Nat → Int) : valE ρ st4.e = ((valE ρ st3.e).put 17 (some (.p 599 0))).put 3 (some (.p 599 0)) := by
  rw [stc4t]
  simp only [valE, T.put_mp, Option.map_some]
  rfl
theorem stp6 : runP Tryz.prog Bodies.tabO 99 [.s C17] st5 st6 0 Pt.done.orc = Pt.done.tr 0 := runP_x lx (by kernel_rfl)
end Go.Proofs.YtcebbmappnbegaaGreatDoor.gateKnown
