/- TopHair: what its pieces ask. -/
import Derived.Test.YtcebbmappnbegaaGreatDoorTopHairA
set_option linter.unusedSimpArgs false
set_option linter.unusedVariables false
set_option linter.unusedSectionVars false
set_option linter.unnecessarySimpa false
set_option maxRecDepth 100000
namespace Go.Proofs.YtcebbmappnbegaaGreatDoor.topHair
open Go.Am
theorem utrv : resL (mkX Tryz.prog) ut12.e ut12.h Tryz.f40.results.toList = some [(.p 415 0)] := by kernel_rfl
theorem sk00c4r : Ck007 = .region (rid Ck007) #[opAt Ck007 0, opAt Ck007 1] false := by kernel_rfl
theorem sk00c4a : cls (mkX Tryz.prog) (opAt Ck007 0) = .call := by kernel_rfl
theorem sk00c4b : (opAt Ck007 0).op = .call (callAt (opAt Ck007 0)) := by kernel_rfl
theorem sk00c4d : (callAt (opAt Ck007 0)).callee = .value (.func 40) := by kernel_rfl
theorem sk00c4e : (callAt (opAt Ck007 0)).args.toList = [] := by kernel_rfl
theorem sk00c4f : (opAt Ck007 0).dst = some 46 := by kernel_rfl
theorem sk00c4g : (opAt Ck007 0).guard = none := by kernel_rfl
theorem sk00c4i : (opAt Ck007 1).dst = some 9 := by kernel_rfl
theorem sk00c4j : (opAt Ck007 1).guard = none := by kernel_rfl
theorem sk00c4h : (opAt Ck007 1).op = .move (.tmp 46) ∨ (opAt Ck007 1).op = .assign (.tmp 46) := by first | exact Or.inr (by kernel_rfl) | exact Or.inl (by kernel_rfl)
theorem sk00c4u : okU sk003 ut12 sk004 = true := by kernel_rfl
theorem sk00c4t : sk004.e = (sk003.e.put 46 (some (.p 415 0))).put 9 (some (.p 415 0)) := (sameT_eq (by kernel_rfl)).symm
theorem sk00c4v (ρ : Nat → Int) : valE ρ sk004.e = ((valE ρ sk003.e).put 46 (some (.p 415 0))).put 9 (some (.p 415 0)) := by
  rw [sk00c4t]
  simp only [valE, T.put_mp, Option.map_some]
  rfl
theorem sk01c4r : Ck017 = .region (rid Ck017) #[opAt Ck017 0, opAt Ck017 1] false := by kernel_rfl
theorem sk01c4a : cls (mkX Tryz.prog) (opAt Ck017 0) = .call := by kernel_rfl
theorem sk01c4b : (opAt Ck017 0).op = .call (callAt (opAt Ck017 0)) := by kernel_rfl
theorem sk01c4d : (callAt (opAt Ck017 0)).callee = .value (.func 40) := by kernel_rfl
theorem sk01c4e : (callAt (opAt Ck017 0)).args.toList = [] := by kernel_rfl
theorem sk01c4f : (opAt Ck017 0).dst = some 46 := by kernel_rfl
theorem sk01c4g : (opAt Ck017 0).guard = none := by kernel_rfl
theorem sk01c4i : (opAt Ck017 1).dst = some 9 := by kernel_rfl
theorem sk01c4j : (opAt Ck017 1).guard = none := by kernel_rfl
theorem sk01c4h : (opAt Ck017 1).op = .move (.tmp 46) ∨ (opAt Ck017 1).op = .assign (.tmp 46) := by first | exact Or.inr (by kernel_rfl) | exact Or.inl (by kernel_rfl)
theorem sk01c4u : okU sk013 ut12 sk014 = true := by kernel_rfl
theorem sk01c4t : sk014.e = (sk013.e.put 46 (some (.p 415 0))).put 9 (some (.p 415 0)) := (sameT_eq (by kernel_rfl)).symm
theorem sk01c4v (ρ : Nat → Int) : valE ρ sk014.e = ((valE ρ sk013.e).put 46 (some (.p 415 0))).put 9 (some (.p 415 0)) := by
  rw [sk01c4t]
  simp only [valE, T.put_mp, Option.map_some]
  rfl
theorem sk02c4r : Ck027 = .region (rid Ck027) #[opAt Ck027 0, opAt Ck027 1] false := by kernel_rfl
theorem sk02c4a : cls (mkX Tryz.prog) (opAt Ck027 0) = .call := by kernel_rfl
theorem sk02c4b : (opAt Ck027 0).op = .call (callAt (opAt Ck027 0)) := by kernel_rfl
theorem sk02c4d : (callAt (opAt Ck027 0)).callee = .value (.func 40) := by kernel_rfl
theorem sk02c4e : (callAt (opAt Ck027 0)).args.toList = [] := by kernel_rfl
theorem sk02c4f : (opAt Ck027 0).dst = some 46 := by kernel_rfl
theorem sk02c4g : (opAt Ck027 0).guard = none := by kernel_rfl
theorem sk02c4i : (opAt Ck027 1).dst = some 9 := by kernel_rfl
theorem sk02c4j : (opAt Ck027 1).guard = none := by kernel_rfl
theorem sk02c4h : (opAt Ck027 1).op = .move (.tmp 46) ∨ (opAt Ck027 1).op = .assign (.tmp 46) := by first | exact Or.inr (by kernel_rfl) | exact Or.inl (by kernel_rfl)
theorem sk02c4u : okU sk023 ut12 sk024 = true := by kernel_rfl
theorem sk02c4t : sk024.e = (sk023.e.put 46 (some (.p 415 0))).put 9 (some (.p 415 0)) := (sameT_eq (by kernel_rfl)).symm
theorem sk02c4v (ρ : Nat → Int) : valE ρ sk024.e = ((valE ρ sk023.e).put 46 (some (.p 415 0))).put 9 (some (.p 415 0)) := by
  rw [sk02c4t]
  simp only [valE, T.put_mp, Option.map_some]
  rfl
theorem sk10c4r : Ck107 = .region (rid Ck107) #[opAt Ck107 0, opAt Ck107 1] false := by kernel_rfl
theorem sk10c4a : cls (mkX Tryz.prog) (opAt Ck107 0) = .call := by kernel_rfl
theorem sk10c4b : (opAt Ck107 0).op = .call (callAt (opAt Ck107 0)) := by kernel_rfl
theorem sk10c4d : (callAt (opAt Ck107 0)).callee = .value (.func 40) := by kernel_rfl
theorem sk10c4e : (callAt (opAt Ck107 0)).args.toList = [] := by kernel_rfl
theorem sk10c4f : (opAt Ck107 0).dst = some 46 := by kernel_rfl
theorem sk10c4g : (opAt Ck107 0).guard = none := by kernel_rfl
theorem sk10c4i : (opAt Ck107 1).dst = some 9 := by kernel_rfl
theorem sk10c4j : (opAt Ck107 1).guard = none := by kernel_rfl
theorem sk10c4h : (opAt Ck107 1).op = .move (.tmp 46) ∨ (opAt Ck107 1).op = .assign (.tmp 46) := by first | exact Or.inr (by kernel_rfl) | exact Or.inl (by kernel_rfl)
theorem sk10c4u : okU sk103 ut12 sk104 = true := by kernel_rfl
theorem sk10c4t : sk104.e = (sk103.e.put 46 (some (.p 415 0))).put 9 (some (.p 415 0)) := (sameT_eq (by kernel_rfl)).symm
theorem sk10c4v (ρ : Nat → Int) : valE ρ sk104.e = ((valE ρ sk103.e).put 46 (some (.p 415 0))).put 9 (some (.p 415 0)) := by
  rw [sk10c4t]
  simp only [valE, T.put_mp, Option.map_some]
  rfl
theorem sk11c4r : Ck117 = .region (rid Ck117) #[opAt Ck117 0, opAt Ck117 1] false := by kernel_rfl
theorem sk11c4a : cls (mkX Tryz.prog) (opAt Ck117 0) = .call := by kernel_rfl
theorem sk11c4b : (opAt Ck117 0).op = .call (callAt (opAt Ck117 0)) := by kernel_rfl
theorem sk11c4d : (callAt (opAt Ck117 0)).callee = .value (.func 40) := by kernel_rfl
theorem sk11c4e : (callAt (opAt Ck117 0)).args.toList = [] := by kernel_rfl
theorem sk11c4f : (opAt Ck117 0).dst = some 46 := by kernel_rfl
theorem sk11c4g : (opAt Ck117 0).guard = none := by kernel_rfl
theorem sk11c4i : (opAt Ck117 1).dst = some 9 := by kernel_rfl
theorem sk11c4j : (opAt Ck117 1).guard = none := by kernel_rfl
theorem sk11c4h : (opAt Ck117 1).op = .move (.tmp 46) ∨ (opAt Ck117 1).op = .assign (.tmp 46) := by first | exact Or.inr (by kernel_rfl) | exact Or.inl (by kernel_rfl)
theorem sk11c4u : okU sk113 ut12 sk114 = true := by kernel_rfl
theorem sk11c4t : sk114.e = (sk113.e.put 46 (some (.p 415 0))).put 9 (some (.p 415 0)) := (sameT_eq (by kernel_rfl)).symm
theorem sk11c4v (ρ : Nat → Int) : valE ρ sk114.e = ((valE ρ sk113.e).put 46 (some (.p 415 0))).put 9 (some (.p 415 0)) := by
  rw [sk11c4t]
  simp only [valE, T.put_mp, Option.map_some]
  rfl
theorem sk12c4r : Ck127 = .region (rid Ck127) #[opAt Ck127 0, opAt Ck127 1] false := by kernel_rfl
theorem sk12c4a : cls (mkX Tryz.prog) (opAt Ck127 0) = .call := by kernel_rfl
theorem sk12c4b : (opAt Ck127 0).op = .call (callAt (opAt Ck127 0)) := by kernel_rfl
theorem sk12c4d : (callAt (opAt Ck127 0)).callee = .value (.func 40) := by kernel_rfl
theorem sk12c4e : (callAt (opAt Ck127 0)).args.toList = [] := by kernel_rfl
theorem sk12c4f : (opAt Ck127 0).dst = some 46 := by kernel_rfl
theorem sk12c4g : (opAt Ck127 0).guard = none := by kernel_rfl
theorem sk12c4i : (opAt Ck127 1).dst = some 9 := by kernel_rfl
theorem sk12c4j : (opAt Ck127 1).guard = none := by kernel_rfl
theorem sk12c4h : (opAt Ck127 1).op = .move (.tmp 46) ∨ (opAt Ck127 1).op = .assign (.tmp 46) := by first | exact Or.inr (by kernel_rfl) | exact Or.inl (by kernel_rfl)
theorem sk12c4u : okU sk123 ut12 sk124 = true := by kernel_rfl
theorem sk12c4t : sk124.e = (sk123.e.put 46 (some (.p 415 0))).put 9 (some (.p 415 0)) := (sameT_eq (by kernel_rfl)).symm
theorem sk12c4v (ρ : Nat → Int) : valE ρ sk124.e = ((valE ρ sk123.e).put 46 (some (.p 415 0))).put 9 (some (.p 415 0)) := by
  rw [sk12c4t]
  simp only [valE, T.put_mp, Option.map_some]
  rfl
theorem sk20c4r : Ck207 = .region (rid Ck207) #[opAt Ck207 0, opAt Ck207 1] false := by kernel_rfl
theorem sk20c4a : cls (mkX Tryz.prog) (opAt Ck207 0) = .call := by kernel_rfl
theorem sk20c4b : (opAt Ck207 0).op = .call (callAt (opAt Ck207 0)) := by kernel_rfl
theorem sk20c4d : (callAt (opAt Ck207 0)).callee = .value (.func 40) := by kernel_rfl
theorem sk20c4e : (callAt (opAt Ck207 0)).args.toList = [] := by kernel_rfl
theorem sk20c4f : (opAt Ck207 0).dst = some 46 := by kernel_rfl
theorem sk20c4g : (opAt Ck207 0).guard = none := by kernel_rfl
theorem sk20c4i : (opAt Ck207 1).dst = some 9 := by kernel_rfl
theorem sk20c4j : (opAt Ck207 1).guard = none := by kernel_rfl
theorem sk20c4h : (opAt Ck207 1).op = .move (.tmp 46) ∨ (opAt Ck207 1).op = .assign (.tmp 46) := by first | exact Or.inr (by kernel_rfl) | exact Or.inl (by kernel_rfl)
theorem sk20c4u : okU sk203 ut12 sk204 = true := by kernel_rfl
theorem sk20c4t : sk204.e = (sk203.e.put 46 (some (.p 415 0))).put 9 (some (.p 415 0)) := (sameT_eq (by kernel_rfl)).symm
theorem sk20c4v (ρ : Nat → Int) : valE ρ sk204.e = ((valE ρ sk203.e).put 46 (some (.p 415 0))).put 9 (some (.p 415 0)) := by
  rw [sk20c4t]
  simp only [valE, T.put_mp, Option.map_some]
  rfl
theorem sk21c4r : Ck217 = .region (rid Ck217) #[opAt Ck217 0, opAt Ck217 1] false := by kernel_rfl
theorem sk21c4a : cls (mkX Tryz.prog) (opAt Ck217 0) = .call := by kernel_rfl
theorem sk21c4b : (opAt Ck217 0).op = .call (callAt (opAt Ck217 0)) := by kernel_rfl
theorem sk21c4d : (callAt (opAt Ck217 0)).callee = .value (.func 40) := by kernel_rfl
theorem sk21c4e : (callAt (opAt Ck217 0)).args.toList = [] := by kernel_rfl
theorem sk21c4f : (opAt Ck217 0).dst = some 46 := by kernel_rfl
theorem sk21c4g : (opAt Ck217 0).guard = none := by kernel_rfl
theorem sk21c4i : (opAt Ck217 1).dst = some 9 := by kernel_rfl
theorem sk21c4j : (opAt Ck217 1).guard = none := by kernel_rfl
theorem sk21c4h : (opAt Ck217 1).op = .move (.tmp 46) ∨ (opAt Ck217 1).op = .assign (.tmp 46) := by first | exact Or.inr (by kernel_rfl) | exact Or.inl (by kernel_rfl)
theorem sk21c4u : okU sk213 ut12 sk214 = true := by kernel_rfl
theorem sk21c4t : sk214.e = (sk213.e.put 46 (some (.p 415 0))).put 9 (some (.p 415 0)) := (sameT_eq (by kernel_rfl)).symm
theorem sk21c4v (ρ : Nat → Int) : valE ρ sk214.e = ((valE ρ sk213.e).put 46 (some (.p 415 0))).put 9 (some (.p 415 0)) := by
  rw [sk21c4t]
  simp only [valE, T.put_mp, Option.map_some]
  rfl
theorem sk22c4r : Ck227 = .region (rid Ck227) #[opAt Ck227 0, opAt Ck227 1] false := by kernel_rfl
theorem sk22c4a : cls (mkX Tryz.prog) (opAt Ck227 0) = .call := by kernel_rfl
theorem sk22c4b : (opAt Ck227 0).op = .call (callAt (opAt Ck227 0)) := by kernel_rfl
theorem sk22c4d : (callAt (opAt Ck227 0)).callee = .value (.func 40) := by kernel_rfl
theorem sk22c4e : (callAt (opAt Ck227 0)).args.toList = [] := by kernel_rfl
theorem sk22c4f : (opAt Ck227 0).dst = some 46 := by kernel_rfl
theorem sk22c4g : (opAt Ck227 0).guard = none := by kernel_rfl
theorem sk22c4i : (opAt Ck227 1).dst = some 9 := by kernel_rfl
theorem sk22c4j : (opAt Ck227 1).guard = none := by kernel_rfl
theorem sk22c4h : (opAt Ck227 1).op = .move (.tmp 46) ∨ (opAt Ck227 1).op = .assign (.tmp 46) := by first | exact Or.inr (by kernel_rfl) | exact Or.inl (by kernel_rfl)
theorem sk22c4u : okU sk223 ut12 sk224 = true := by kernel_rfl
theorem sk22c4t : sk224.e = (sk223.e.put 46 (some (.p 415 0))).put 9 (some (.p 415 0)) := (sameT_eq (by kernel_rfl)).symm
theorem sk22c4v (ρ : Nat → Int) : valE ρ sk224.e = ((valE ρ sk223.e).put 46 (some (.p 415 0))).put 9 (some (.p 415 0)) := by
  rw [sk22c4t]
  simp only [valE, T.put_mp, Option.map_some]
  rfl
def oTE : Pt := (.fork (.lt (.v 0) (.c 0)) .done (.fork (.lt (.c 2) (.v 0)) .done (.fork (.lt (.v 1) (.c 0)) .done (.fork (.lt (.c 2) (.v 1)) .done (.fork (.lt (.v 2) (.c 1024)) .done (.fork (.lt (.c 39999) (.v 2)) .done (.fork (.lt (.v 3) (.c 1)) .done (.yes (.lt (.c 65535) (.v 3)) .done))))))))
theorem oall (a0 a1 a2 a3 : Int) (l0 : (-9223372036854775808 : Int) ≤ a0) (u0 : a0 ≤ (9223372036854775807 : Int)) (l1 : (-9223372036854775808 : Int) ≤ a1) (u1 : a1 ≤ (9223372036854775807 : Int)) (l2 : (-9223372036854775808 : Int) ≤ a2) (u2 : a2 ≤ (9223372036854775807 : Int)) (l3 : (-9223372036854775808 : Int) ≤ a3) (u3 : a3 ≤ (9223372036854775807 : Int)) (x0 : a0 < 0 ∨ 2 < a0 ∨ a1 < 0 ∨ 2 < a1 ∨ a2 < 1024 ∨ 39999 < a2 ∨ a3 < 1 ∨ 65535 < a3) : oTE.holds [a0, a1, a2, a3] := (Pt.h_fork (fun (_ : a0 < (0 : Int)) => Pt.h_done) (fun (_ : ¬ a0 < (0 : Int)) => (Pt.h_fork (fun (_ : (2 : Int) < a0) => Pt.h_done) (fun (_ : ¬ (2 : Int) < a0) => (Pt.h_fork (fun (_ : a1 < (0 : Int)) => Pt.h_done) (fun (_ : ¬ a1 < (0 : Int)) => (Pt.h_fork (fun (_ : (2 : Int) < a1) => Pt.h_done) (fun (_ : ¬ (2 : Int) < a1) => (Pt.h_fork (fun (_ : a2 < (1024 : Int)) => Pt.h_done) (fun (_ : ¬ a2 < (1024 : Int)) => (Pt.h_fork (fun (_ : (39999 : Int) < a2) => Pt.h_done) (fun (_ : ¬ (39999 : Int) < a2) => (Pt.h_fork (fun (_ : a3 < (1 : Int)) => Pt.h_done) (fun (_ : ¬ a3 < (1 : Int)) => (Pt.h_yes (show (65535 : Int) < a3 by omega) Pt.h_done)))))))))))))))
theorem ofits : oTE.ok 4 = true := by kernel_rfl
end Go.Proofs.YtcebbmappnbegaaGreatDoor.topHair
