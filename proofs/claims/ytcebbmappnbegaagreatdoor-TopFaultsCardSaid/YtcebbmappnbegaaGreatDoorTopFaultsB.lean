/- TopFaults: its run, out of its pieces. -/
import Derived.Test.YtcebbmappnbegaaGreatDoorTopFaultsR0
import Derived.Test.YtcebbmappnbegaaGreatDoorTopFaultsR1
import Derived.Test.YtcebbmappnbegaaGreatDoorTopFaultsR2
import Derived.Test.YtcebbmappnbegaaGreatDoorTopFaultsR3
import Derived.Test.YtcebbmappnbegaaGreatDoorTopFaultsR4
import Derived.Test.YtcebbmappnbegaaGreatDoorTopFaultsR5
import Derived.Test.YtcebbmappnbegaaGreatDoorTopFaultsR6
import Derived.Test.YtcebbmappnbegaaGreatDoorTopFaultsR7
import Derived.Test.YtcebbmappnbegaaGreatDoorYtceLx
set_option linter.unusedSimpArgs false
set_option linter.unusedVariables false
set_option linter.unusedSectionVars false
set_option linter.unnecessarySimpa false
set_option maxRecDepth 100000
namespace Go.Proofs.YtcebbmappnbegaaGreatDoor.topFaults
open Go.Am Go.Proofs.YtcebbmappnbegaaGreatDoor.Facts
theorem upRan (a0 a1 : Int) (kk : List Int) : ∃ h', sem (mkX Tryz.prog) 100000 99 40 [] ⟨228, .l⟩ = some ((.p 415 0), h') ∧ Sub (valH (nmL ([a0, a1] ++ kk)) ut12.h) h' := by
  refine call_of_fin (n := 98) (ρ := nmL ([a0, a1] ++ kk)) Tryz.func40 (by rw [lx]; kernel_rfl) (by kernel_rfl) ?_
  show Fin (mkX Tryz.prog) (sem (mkX Tryz.prog) 100000 98) 100000 Tryz.f40.results.toList _ [.s K0] .n (valE (nmL ([a0, a1] ++ kk)) ut0.e) (valH (nmL ([a0, a1] ++ kk)) ut0.h)
  refine Fin.deep (a := []) (deep_seq K0 [] (by kernel_rfl)) ?_
  show Fin (mkX Tryz.prog) (sem (mkX Tryz.prog) 100000 98) 100000 Tryz.f40.results.toList _ [.s K1, .s K2] .n (valE (nmL ([a0, a1] ++ kk)) ut0.e) (valH (nmL ([a0, a1] ++ kk)) ut0.h)
  refine Fin.deep (a := [.s K1]) (deep_seq K2 [] (by kernel_rfl)) ?_
  show Fin (mkX Tryz.prog) (sem (mkX Tryz.prog) 100000 98) 100000 Tryz.f40.results.toList _ [.s K1, .s K3, .s K4] .n (valE (nmL ([a0, a1] ++ kk)) ut0.e) (valH (nmL ([a0, a1] ++ kk)) ut0.h)
  refine Fin.deep (a := [.s K1, .s K3]) (deep_seq K4 [] (by kernel_rfl)) ?_
  show Fin (mkX Tryz.prog) (sem (mkX Tryz.prog) 100000 98) 100000 Tryz.f40.results.toList _ [.s K1, .s K3, .s K5, .s K6] .n (valE (nmL ([a0, a1] ++ kk)) ut0.e) (valH (nmL ([a0, a1] ++ kk)) ut0.h)
  refine Fin.deep (a := [.s K1, .s K3, .s K5]) (deep_seq K6 [] (by kernel_rfl)) ?_
  show Fin (mkX Tryz.prog) (sem (mkX Tryz.prog) 100000 98) 100000 Tryz.f40.results.toList _ [.s K1, .s K3, .s K5, .s K7, .s K8] .n (valE (nmL ([a0, a1] ++ kk)) ut0.e) (valH (nmL ([a0, a1] ++ kk)) ut0.h)
  refine Fin.deep (a := [.s K1, .s K3, .s K5, .s K7]) (deep_seq K8 [] (by kernel_rfl)) ?_
  show Fin (mkX Tryz.prog) (sem (mkX Tryz.prog) 100000 98) 100000 Tryz.f40.results.toList _ [.s K1, .s K3, .s K5, .s K7, .s K9, .s K10] .n (valE (nmL ([a0, a1] ++ kk)) ut0.e) (valH (nmL ([a0, a1] ++ kk)) ut0.h)
  refine Fin.step (a := [.s K1, .s K3, .s K5, .s K7]) (sem_fr 100000 98) (piece_ok (l := [a0, a1]) Bodies.xc Bodies.tabOkS utp1 rfl trivial kk) ?_
  show Fin (mkX Tryz.prog) (sem (mkX Tryz.prog) 100000 98) 100000 Tryz.f40.results.toList _ [.s K9, .s K10] .n (valE (nmL ([a0, a1] ++ kk)) ut1.e) (valH (nmL ([a0, a1] ++ kk)) ut1.h)
  refine Fin.deep (a := [.s K9]) (deep_seq K10 [] (by kernel_rfl)) ?_
  show Fin (mkX Tryz.prog) (sem (mkX Tryz.prog) 100000 98) 100000 Tryz.f40.results.toList _ [.s K9, .s K11, .s K12] .n (valE (nmL ([a0, a1] ++ kk)) ut1.e) (valH (nmL ([a0, a1] ++ kk)) ut1.h)
  refine Fin.step (a := [.s K9]) (sem_fr 100000 98) (piece_ok (l := [a0, a1]) Bodies.xc Bodies.tabOkS utp2 rfl trivial kk) ?_
  show Fin (mkX Tryz.prog) (sem (mkX Tryz.prog) 100000 98) 100000 Tryz.f40.results.toList _ [.s K11, .s K12] .n (valE (nmL ([a0, a1] ++ kk)) ut2.e) (valH (nmL ([a0, a1] ++ kk)) ut2.h)
  refine Fin.deep (a := [.s K11]) (deep_seq K12 [] (by kernel_rfl)) ?_
  show Fin (mkX Tryz.prog) (sem (mkX Tryz.prog) 100000 98) 100000 Tryz.f40.results.toList _ [.s K11, .s K13, .s K14] .n (valE (nmL ([a0, a1] ++ kk)) ut2.e) (valH (nmL ([a0, a1] ++ kk)) ut2.h)
  refine Fin.deep (a := [.s K11]) (deep_seq K13 [.s K14] (by kernel_rfl)) ?_
  show Fin (mkX Tryz.prog) (sem (mkX Tryz.prog) 100000 98) 100000 Tryz.f40.results.toList _ [.s K11, .s K15, .s K16, .s K14] .n (valE (nmL ([a0, a1] ++ kk)) ut2.e) (valH (nmL ([a0, a1] ++ kk)) ut2.h)
  refine Fin.step (a := [.s K11, .s K15]) (sem_fr 100000 98) (piece_ok (l := [a0, a1]) Bodies.xc Bodies.tabOkS utp3 rfl trivial kk) ?_
  show Fin (mkX Tryz.prog) (sem (mkX Tryz.prog) 100000 98) 100000 Tryz.f40.results.toList _ [.s K16, .s K14] .n (valE (nmL ([a0, a1] ++ kk)) ut3.e) (valH (nmL ([a0, a1] ++ kk)) ut3.h)
  refine Fin.block' (n := K16) (by kernel_rfl) ?_
  show Fin (mkX Tryz.prog) (sem (mkX Tryz.prog) 100000 98) 100000 Tryz.f40.results.toList _ [.s K17, .b 0, .s K14] .n (valE (nmL ([a0, a1] ++ kk)) ut3.e) (valH (nmL ([a0, a1] ++ kk)) ut3.h)
  refine Fin.deep (a := []) (deep_loop K17 [.b 0, .s K14] (by kernel_rfl)) ?_
  show Fin (mkX Tryz.prog) (sem (mkX Tryz.prog) 100000 98) 100000 Tryz.f40.results.toList _ [.l K18 100000, .b 0, .s K14] .n (valE (nmL ([a0, a1] ++ kk)) ut3.e) (valH (nmL ([a0, a1] ++ kk)) ut3.h)
  refine Fin.deep (a := []) (deep_round K18 99999 [.b 0, .s K14]) ?_
  show Fin (mkX Tryz.prog) (sem (mkX Tryz.prog) 100000 98) 100000 Tryz.f40.results.toList _ [.s K18, .l K18 99999, .b 0, .s K14] .n (valE (nmL ([a0, a1] ++ kk)) ut3.e) (valH (nmL ([a0, a1] ++ kk)) ut3.h)
  refine Fin.deep (a := []) (deep_seq K18 [.l K18 99999, .b 0, .s K14] (by kernel_rfl)) ?_
  show Fin (mkX Tryz.prog) (sem (mkX Tryz.prog) 100000 98) 100000 Tryz.f40.results.toList _ [.s K19, .s K20, .l K18 99999, .b 0, .s K14] .n (valE (nmL ([a0, a1] ++ kk)) ut3.e) (valH (nmL ([a0, a1] ++ kk)) ut3.h)
  refine Fin.deep (a := [.s K19]) (deep_seq K20 [.l K18 99999, .b 0, .s K14] (by kernel_rfl)) ?_
  show Fin (mkX Tryz.prog) (sem (mkX Tryz.prog) 100000 98) 100000 Tryz.f40.results.toList _ [.s K19, .s K21, .s K22, .l K18 99999, .b 0, .s K14] .n (valE (nmL ([a0, a1] ++ kk)) ut3.e) (valH (nmL ([a0, a1] ++ kk)) ut3.h)
  refine Fin.step (a := [.s K19]) (sem_fr 100000 98) (piece_ok (l := [a0, a1]) Bodies.xc Bodies.tabOkS utp4 rfl trivial kk) ?_
  show Fin (mkX Tryz.prog) (sem (mkX Tryz.prog) 100000 98) 100000 Tryz.f40.results.toList _ [.s K21, .s K22, .l K18 99999, .b 0, .s K14] .n (valE (nmL ([a0, a1] ++ kk)) ut4.e) (valH (nmL ([a0, a1] ++ kk)) ut4.h)
  refine Fin.block' (n := K21) (by kernel_rfl) ?_
  show Fin (mkX Tryz.prog) (sem (mkX Tryz.prog) 100000 98) 100000 Tryz.f40.results.toList _ [.s K23, .b 1, .s K22, .l K18 99999, .b 0, .s K14] .n (valE (nmL ([a0, a1] ++ kk)) ut4.e) (valH (nmL ([a0, a1] ++ kk)) ut4.h)
  refine Fin.deep (a := []) (deep_seq K23 [.b 1, .s K22, .l K18 99999, .b 0, .s K14] (by kernel_rfl)) ?_
  show Fin (mkX Tryz.prog) (sem (mkX Tryz.prog) 100000 98) 100000 Tryz.f40.results.toList _ [.s K24, .s K25, .b 1, .s K22, .l K18 99999, .b 0, .s K14] .n (valE (nmL ([a0, a1] ++ kk)) ut4.e) (valH (nmL ([a0, a1] ++ kk)) ut4.h)
  refine Fin.step (a := [.s K24]) (sem_fr 100000 98) (piece_ok (l := [a0, a1]) Bodies.xc Bodies.tabOkS utp5 rfl trivial kk) ?_
  show Fin (mkX Tryz.prog) (sem (mkX Tryz.prog) 100000 98) 100000 Tryz.f40.results.toList _ [.s K25, .b 1, .s K22, .l K18 99999, .b 0, .s K14] .n (valE (nmL ([a0, a1] ++ kk)) ut5.e) (valH (nmL ([a0, a1] ++ kk)) ut5.h)
  refine Fin.step (a := [.s K25, .b 1, .s K22]) (sem_fr 100000 98) (piece_ok (l := [a0, a1]) Bodies.xc Bodies.tabOkS utp6 rfl trivial kk) ?_
  show Fin (mkX Tryz.prog) (sem (mkX Tryz.prog) 100000 98) 100000 Tryz.f40.results.toList _ [.l K18 99999, .b 0, .s K14] .n (valE (nmL ([a0, a1] ++ kk)) ut6.e) (valH (nmL ([a0, a1] ++ kk)) ut6.h)
  refine Fin.deep (a := []) (deep_round K18 99998 [.b 0, .s K14]) ?_
  show Fin (mkX Tryz.prog) (sem (mkX Tryz.prog) 100000 98) 100000 Tryz.f40.results.toList _ [.s K18, .l K18 99998, .b 0, .s K14] .n (valE (nmL ([a0, a1] ++ kk)) ut6.e) (valH (nmL ([a0, a1] ++ kk)) ut6.h)
  refine Fin.deep (a := []) (deep_seq K18 [.l K18 99998, .b 0, .s K14] (by kernel_rfl)) ?_
  show Fin (mkX Tryz.prog) (sem (mkX Tryz.prog) 100000 98) 100000 Tryz.f40.results.toList _ [.s K26, .s K27, .l K18 99998, .b 0, .s K14] .n (valE (nmL ([a0, a1] ++ kk)) ut6.e) (valH (nmL ([a0, a1] ++ kk)) ut6.h)
  refine Fin.deep (a := [.s K26]) (deep_seq K27 [.l K18 99998, .b 0, .s K14] (by kernel_rfl)) ?_
  show Fin (mkX Tryz.prog) (sem (mkX Tryz.prog) 100000 98) 100000 Tryz.f40.results.toList _ [.s K26, .s K28, .s K29, .l K18 99998, .b 0, .s K14] .n (valE (nmL ([a0, a1] ++ kk)) ut6.e) (valH (nmL ([a0, a1] ++ kk)) ut6.h)
  refine Fin.step (a := [.s K26]) (sem_fr 100000 98) (piece_ok (l := [a0, a1]) Bodies.xc Bodies.tabOkS utp7 rfl trivial kk) ?_
  show Fin (mkX Tryz.prog) (sem (mkX Tryz.prog) 100000 98) 100000 Tryz.f40.results.toList _ [.s K28, .s K29, .l K18 99998, .b 0, .s K14] .n (valE (nmL ([a0, a1] ++ kk)) ut7.e) (valH (nmL ([a0, a1] ++ kk)) ut7.h)
  refine Fin.block' (n := K28) (by kernel_rfl) ?_
  show Fin (mkX Tryz.prog) (sem (mkX Tryz.prog) 100000 98) 100000 Tryz.f40.results.toList _ [.s K30, .b 1, .s K29, .l K18 99998, .b 0, .s K14] .n (valE (nmL ([a0, a1] ++ kk)) ut7.e) (valH (nmL ([a0, a1] ++ kk)) ut7.h)
  refine Fin.deep (a := []) (deep_seq K30 [.b 1, .s K29, .l K18 99998, .b 0, .s K14] (by kernel_rfl)) ?_
  show Fin (mkX Tryz.prog) (sem (mkX Tryz.prog) 100000 98) 100000 Tryz.f40.results.toList _ [.s K31, .s K32, .b 1, .s K29, .l K18 99998, .b 0, .s K14] .n (valE (nmL ([a0, a1] ++ kk)) ut7.e) (valH (nmL ([a0, a1] ++ kk)) ut7.h)
  refine Fin.step (a := [.s K31]) (sem_fr 100000 98) (piece_ok (l := [a0, a1]) Bodies.xc Bodies.tabOkS utp8 rfl trivial kk) ?_
  show Fin (mkX Tryz.prog) (sem (mkX Tryz.prog) 100000 98) 100000 Tryz.f40.results.toList _ [.s K32, .b 1, .s K29, .l K18 99998, .b 0, .s K14] .n (valE (nmL ([a0, a1] ++ kk)) ut8.e) (valH (nmL ([a0, a1] ++ kk)) ut8.h)
  refine Fin.step (a := [.s K32, .b 1, .s K29]) (sem_fr 100000 98) (piece_ok (l := [a0, a1]) Bodies.xc Bodies.tabOkS utp9 rfl trivial kk) ?_
  show Fin (mkX Tryz.prog) (sem (mkX Tryz.prog) 100000 98) 100000 Tryz.f40.results.toList _ [.l K18 99998, .b 0, .s K14] .n (valE (nmL ([a0, a1] ++ kk)) ut9.e) (valH (nmL ([a0, a1] ++ kk)) ut9.h)
  refine Fin.deep (a := []) (deep_round K18 99997 [.b 0, .s K14]) ?_
  show Fin (mkX Tryz.prog) (sem (mkX Tryz.prog) 100000 98) 100000 Tryz.f40.results.toList _ [.s K18, .l K18 99997, .b 0, .s K14] .n (valE (nmL ([a0, a1] ++ kk)) ut9.e) (valH (nmL ([a0, a1] ++ kk)) ut9.h)
  refine Fin.deep (a := []) (deep_seq K18 [.l K18 99997, .b 0, .s K14] (by kernel_rfl)) ?_
  show Fin (mkX Tryz.prog) (sem (mkX Tryz.prog) 100000 98) 100000 Tryz.f40.results.toList _ [.s K33, .s K34, .l K18 99997, .b 0, .s K14] .n (valE (nmL ([a0, a1] ++ kk)) ut9.e) (valH (nmL ([a0, a1] ++ kk)) ut9.h)
  refine Fin.deep (a := [.s K33]) (deep_seq K34 [.l K18 99997, .b 0, .s K14] (by kernel_rfl)) ?_
  show Fin (mkX Tryz.prog) (sem (mkX Tryz.prog) 100000 98) 100000 Tryz.f40.results.toList _ [.s K33, .s K35, .s K36, .l K18 99997, .b 0, .s K14] .n (valE (nmL ([a0, a1] ++ kk)) ut9.e) (valH (nmL ([a0, a1] ++ kk)) ut9.h)
  refine Fin.step (a := [.s K33]) (sem_fr 100000 98) (piece_ok (l := [a0, a1]) Bodies.xc Bodies.tabOkS utp10 rfl trivial kk) ?_
  show Fin (mkX Tryz.prog) (sem (mkX Tryz.prog) 100000 98) 100000 Tryz.f40.results.toList _ [.s K35, .s K36, .l K18 99997, .b 0, .s K14] .n (valE (nmL ([a0, a1] ++ kk)) ut10.e) (valH (nmL ([a0, a1] ++ kk)) ut10.h)
  refine Fin.block' (n := K35) (by kernel_rfl) ?_
  show Fin (mkX Tryz.prog) (sem (mkX Tryz.prog) 100000 98) 100000 Tryz.f40.results.toList _ [.s K37, .b 1, .s K36, .l K18 99997, .b 0, .s K14] .n (valE (nmL ([a0, a1] ++ kk)) ut10.e) (valH (nmL ([a0, a1] ++ kk)) ut10.h)
  refine Fin.deep (a := []) (deep_seq K37 [.b 1, .s K36, .l K18 99997, .b 0, .s K14] (by kernel_rfl)) ?_
  show Fin (mkX Tryz.prog) (sem (mkX Tryz.prog) 100000 98) 100000 Tryz.f40.results.toList _ [.s K38, .s K39, .b 1, .s K36, .l K18 99997, .b 0, .s K14] .n (valE (nmL ([a0, a1] ++ kk)) ut10.e) (valH (nmL ([a0, a1] ++ kk)) ut10.h)
  refine Fin.step (a := [.s K38]) (sem_fr 100000 98) (piece_ok (l := [a0, a1]) Bodies.xc Bodies.tabOkS utp11 rfl trivial kk) ?_
  show Fin (mkX Tryz.prog) (sem (mkX Tryz.prog) 100000 98) 100000 Tryz.f40.results.toList _ [.s K39, .b 1, .s K36, .l K18 99997, .b 0, .s K14] .n (valE (nmL ([a0, a1] ++ kk)) ut11.e) (valH (nmL ([a0, a1] ++ kk)) ut11.h)
  exact Fin.ret (sem_fr 100000 98) (piece_ok (l := [a0, a1]) Bodies.xc Bodies.tabOkS utp12 rfl trivial kk) (Or.inr rfl) (resL_val (ρ := nmL ([a0, a1] ++ kk)) _ utrv) (fun g s => ⟨rfl, s⟩)
theorem k0ran (a0 a1 : Int) (l0 : (-9223372036854775808 : Int) ≤ a0) (u0 : a0 ≤ (9223372036854775807 : Int)) (l1 : (1 : Int) ≤ a1) (u1 : a1 ≤ (65535 : Int)) : ∃ h', sem (mkX Tryz.prog) 100000 100 13 [.i .i64 0, .i .i64 a0, .i .i64 a1] ⟨16, lay []⟩ = some (.b true, h') := by
  have E : ∃ q' e' h', thenF (mkX Tryz.prog) (sem (mkX Tryz.prog) 100000 99) 100000 [.s Ck011, .s Ck012] sk05.q (valE (nmL ([a0, a1] ++ ([] : List Int))) sk05.e) (valH (nmL ([a0, a1] ++ ([] : List Int))) sk05.h) = some (q', e', h') ∧ (q' = .n ∨ q' = .r) ∧ resL (mkX Tryz.prog) e' h' Tryz.f13.results.toList = some [.b true] := by
    have hc : (a1 = 68) ∨ (a1 ≤ 39999 ∧ a1 ≠ 68) ∨ (40000 ≤ a1) := by omega
    rcases hc with hc | hc | hc
    · exact endA_ok (l := [a0, a1]) lx Bodies.xc Bodies.tabOkS sk0pe0 (fits_cons l0 u0 (fits_cons (by omega) (by omega) fits_nil)) trivial (σ := nmL ([a0, a1] ++ ([] : List Int))) (fun i _ => by simp only [nmL, List.append_nil])
    · exact endA_ok (l := [a0, a1]) lx Bodies.xc Bodies.tabOkS sk0pe1 (fits_cons l0 u0 (fits_cons (by omega) (by omega) fits_nil)) ⟨⟨by simp, by simp only [List.getD_cons_zero, List.getD_cons_succ]; omega⟩, trivial⟩ (σ := nmL ([a0, a1] ++ ([] : List Int))) (fun i _ => by simp only [nmL, List.append_nil])
    · exact endA_ok (l := [a0, a1]) lx Bodies.xc Bodies.tabOkS sk0pe2 (fits_cons l0 u0 (fits_cons (by omega) (by omega) fits_nil)) trivial (σ := nmL ([a0, a1] ++ ([] : List Int))) (fun i _ => by simp only [nmL, List.append_nil])
  obtain ⟨q', e', h', z1, z2, z3⟩ := E
  have F : Fin (mkX Tryz.prog) (sem (mkX Tryz.prog) 100000 99) 100000 Tryz.f13.results.toList (fun v _ => v = .b true) [.s Ck00] .n (valE (nmL ([a0, a1] ++ ([] : List Int))) sk00.e) (valH (nmL ([a0, a1] ++ ([] : List Int))) sk00.h) := by
    refine Fin.deep (a := []) (deep_seq Ck00 [] (by kernel_rfl)) ?_
    show Fin (mkX Tryz.prog) (sem (mkX Tryz.prog) 100000 99) 100000 Tryz.f13.results.toList _ [.s Ck01, .s Ck02] .n (valE (nmL ([a0, a1] ++ ([] : List Int))) sk00.e) (valH (nmL ([a0, a1] ++ ([] : List Int))) sk00.h)
    refine Fin.step (a := [.s Ck01]) (sem_fr 100000 99) (piece_ok (l := [a0, a1]) Bodies.xc Bodies.tabOkS sk0p1 rfl trivial []) ?_
    show Fin (mkX Tryz.prog) (sem (mkX Tryz.prog) 100000 99) 100000 Tryz.f13.results.toList _ [.s Ck02] .n (valE (nmL ([a0, a1] ++ ([] : List Int))) sk01.e) (valH (nmL ([a0, a1] ++ ([] : List Int))) sk01.h)
    refine Fin.deep (a := []) (deep_seq Ck02 [] (by kernel_rfl)) ?_
    show Fin (mkX Tryz.prog) (sem (mkX Tryz.prog) 100000 99) 100000 Tryz.f13.results.toList _ [.s Ck03, .s Ck04] .n (valE (nmL ([a0, a1] ++ ([] : List Int))) sk01.e) (valH (nmL ([a0, a1] ++ ([] : List Int))) sk01.h)
    refine Fin.step (a := [.s Ck03]) (sem_fr 100000 99) (piece_ok (l := [a0, a1]) Bodies.xc Bodies.tabOkS sk0p2 rfl trivial []) ?_
    show Fin (mkX Tryz.prog) (sem (mkX Tryz.prog) 100000 99) 100000 Tryz.f13.results.toList _ [.s Ck04] .n (valE (nmL ([a0, a1] ++ ([] : List Int))) sk02.e) (valH (nmL ([a0, a1] ++ ([] : List Int))) sk02.h)
    refine Fin.deep (a := []) (deep_seq Ck04 [] (by kernel_rfl)) ?_
    show Fin (mkX Tryz.prog) (sem (mkX Tryz.prog) 100000 99) 100000 Tryz.f13.results.toList _ [.s Ck05, .s Ck06] .n (valE (nmL ([a0, a1] ++ ([] : List Int))) sk02.e) (valH (nmL ([a0, a1] ++ ([] : List Int))) sk02.h)
    refine Fin.step (a := [.s Ck05]) (sem_fr 100000 99) (pieceA_ok lx Bodies.xc Bodies.tabOkS sk0p3 (l := [a0, a1]) (fits_cons l0 u0 (fits_cons l1 u1 fits_nil)) trivial (σ := nmL ([a0, a1] ++ ([] : List Int))) (fun i _ => by simp only [nmL, List.append_nil])) ?_
    show Fin (mkX Tryz.prog) (sem (mkX Tryz.prog) 100000 99) 100000 Tryz.f13.results.toList _ [.s Ck06] .n (valE (nmL ([a0, a1] ++ ([] : List Int))) sk03.e) (valH (nmL ([a0, a1] ++ ([] : List Int))) sk03.h)
    refine Fin.deep (a := []) (deep_seq Ck06 [] (by kernel_rfl)) ?_
    show Fin (mkX Tryz.prog) (sem (mkX Tryz.prog) 100000 99) 100000 Tryz.f13.results.toList _ [.s Ck07, .s Ck08] .n (valE (nmL ([a0, a1] ++ ([] : List Int))) sk03.e) (valH (nmL ([a0, a1] ++ ([] : List Int))) sk03.h)
    refine Fin.call3 sk0c4r sk0c4a sk0c4b sk0c4d sk0c4e sk0c4f sk0c4g sk0c4h sk0c4i sk0c4j (call_known (upRan a0 a1 []) (okU_ok sk0c4u _).1 (okU_ok sk0c4u _).2) (sk0c4v _) ?_
    show Fin (mkX Tryz.prog) (sem (mkX Tryz.prog) 100000 99) 100000 Tryz.f13.results.toList _ [.s Ck08] .n (valE (nmL ([a0, a1] ++ ([] : List Int))) sk04.e) (valH (nmL ([a0, a1] ++ ([] : List Int))) sk04.h)
    refine Fin.deep (a := []) (deep_seq Ck08 [] (by kernel_rfl)) ?_
    show Fin (mkX Tryz.prog) (sem (mkX Tryz.prog) 100000 99) 100000 Tryz.f13.results.toList _ [.s Ck09, .s Ck010] .n (valE (nmL ([a0, a1] ++ ([] : List Int))) sk04.e) (valH (nmL ([a0, a1] ++ ([] : List Int))) sk04.h)
    refine Fin.step (a := [.s Ck09]) (sem_fr 100000 99) (piece_ok (l := [a0, a1]) Bodies.xc Bodies.tabOkS sk0p5 rfl trivial []) ?_
    show Fin (mkX Tryz.prog) (sem (mkX Tryz.prog) 100000 99) 100000 Tryz.f13.results.toList _ [.s Ck010] .n (valE (nmL ([a0, a1] ++ ([] : List Int))) sk05.e) (valH (nmL ([a0, a1] ++ ([] : List Int))) sk05.h)
    refine Fin.deep (a := []) (deep_seq Ck010 [] (by kernel_rfl)) ?_
    show Fin (mkX Tryz.prog) (sem (mkX Tryz.prog) 100000 99) 100000 Tryz.f13.results.toList _ [.s Ck011, .s Ck012] .n (valE (nmL ([a0, a1] ++ ([] : List Int))) sk05.e) (valH (nmL ([a0, a1] ++ ([] : List Int))) sk05.h)
    exact Go.Am.Fin.last (sem_fr 100000 99) z1 z2 z3 (fun g _ => rfl)
  have := law_of_fin (n := 99) (args := [.i .i64 (.ofNat 0), nameV .i64 0, nameV .i64 1]) (tb := []) (ρ := nmL ([a0, a1] ++ ([] : List Int))) Tryz.func13 (by rw [lx]; kernel_rfl) (by kernel_rfl) F
  have hv : vals (nmL ([a0, a1] ++ ([] : List Int))) [.i .i64 (.ofNat 0), nameV .i64 0, nameV .i64 1] = [.i .i64 0, .i .i64 a0, .i .i64 a1] := by
    simp only [vals, val, val_nameV]
    rfl
  rw [hv] at this
  exact this
theorem k1ran (a0 a1 : Int) (l0 : (-9223372036854775808 : Int) ≤ a0) (u0 : a0 ≤ (9223372036854775807 : Int)) (l1 : (1 : Int) ≤ a1) (u1 : a1 ≤ (65535 : Int)) : ∃ h', sem (mkX Tryz.prog) 100000 100 13 [.i .i64 1, .i .i64 a0, .i .i64 a1] ⟨16, lay []⟩ = some (.b true, h') := by
  have E : ∃ q' e' h', thenF (mkX Tryz.prog) (sem (mkX Tryz.prog) 100000 99) 100000 [.s Ck111, .s Ck112] sk15.q (valE (nmL ([a0, a1] ++ ([] : List Int))) sk15.e) (valH (nmL ([a0, a1] ++ ([] : List Int))) sk15.h) = some (q', e', h') ∧ (q' = .n ∨ q' = .r) ∧ resL (mkX Tryz.prog) e' h' Tryz.f13.results.toList = some [.b true] := by
    have hc : (a1 = 68) ∨ (a1 ≤ 39999 ∧ a1 ≠ 68) ∨ (40000 ≤ a1) := by omega
    rcases hc with hc | hc | hc
    · exact endA_ok (l := [a0, a1]) lx Bodies.xc Bodies.tabOkS sk1pe0 (fits_cons l0 u0 (fits_cons (by omega) (by omega) fits_nil)) trivial (σ := nmL ([a0, a1] ++ ([] : List Int))) (fun i _ => by simp only [nmL, List.append_nil])
    · exact endA_ok (l := [a0, a1]) lx Bodies.xc Bodies.tabOkS sk1pe1 (fits_cons l0 u0 (fits_cons (by omega) (by omega) fits_nil)) ⟨⟨by simp, by simp only [List.getD_cons_zero, List.getD_cons_succ]; omega⟩, trivial⟩ (σ := nmL ([a0, a1] ++ ([] : List Int))) (fun i _ => by simp only [nmL, List.append_nil])
    · exact endA_ok (l := [a0, a1]) lx Bodies.xc Bodies.tabOkS sk1pe2 (fits_cons l0 u0 (fits_cons (by omega) (by omega) fits_nil)) trivial (σ := nmL ([a0, a1] ++ ([] : List Int))) (fun i _ => by simp only [nmL, List.append_nil])
  obtain ⟨q', e', h', z1, z2, z3⟩ := E
  have F : Fin (mkX Tryz.prog) (sem (mkX Tryz.prog) 100000 99) 100000 Tryz.f13.results.toList (fun v _ => v = .b true) [.s Ck10] .n (valE (nmL ([a0, a1] ++ ([] : List Int))) sk10.e) (valH (nmL ([a0, a1] ++ ([] : List Int))) sk10.h) := by
    refine Fin.deep (a := []) (deep_seq Ck10 [] (by kernel_rfl)) ?_
    show Fin (mkX Tryz.prog) (sem (mkX Tryz.prog) 100000 99) 100000 Tryz.f13.results.toList _ [.s Ck11, .s Ck12] .n (valE (nmL ([a0, a1] ++ ([] : List Int))) sk10.e) (valH (nmL ([a0, a1] ++ ([] : List Int))) sk10.h)
    refine Fin.step (a := [.s Ck11]) (sem_fr 100000 99) (piece_ok (l := [a0, a1]) Bodies.xc Bodies.tabOkS sk1p1 rfl trivial []) ?_
    show Fin (mkX Tryz.prog) (sem (mkX Tryz.prog) 100000 99) 100000 Tryz.f13.results.toList _ [.s Ck12] .n (valE (nmL ([a0, a1] ++ ([] : List Int))) sk11.e) (valH (nmL ([a0, a1] ++ ([] : List Int))) sk11.h)
    refine Fin.deep (a := []) (deep_seq Ck12 [] (by kernel_rfl)) ?_
    show Fin (mkX Tryz.prog) (sem (mkX Tryz.prog) 100000 99) 100000 Tryz.f13.results.toList _ [.s Ck13, .s Ck14] .n (valE (nmL ([a0, a1] ++ ([] : List Int))) sk11.e) (valH (nmL ([a0, a1] ++ ([] : List Int))) sk11.h)
    refine Fin.step (a := [.s Ck13]) (sem_fr 100000 99) (piece_ok (l := [a0, a1]) Bodies.xc Bodies.tabOkS sk1p2 rfl trivial []) ?_
    show Fin (mkX Tryz.prog) (sem (mkX Tryz.prog) 100000 99) 100000 Tryz.f13.results.toList _ [.s Ck14] .n (valE (nmL ([a0, a1] ++ ([] : List Int))) sk12.e) (valH (nmL ([a0, a1] ++ ([] : List Int))) sk12.h)
    refine Fin.deep (a := []) (deep_seq Ck14 [] (by kernel_rfl)) ?_
    show Fin (mkX Tryz.prog) (sem (mkX Tryz.prog) 100000 99) 100000 Tryz.f13.results.toList _ [.s Ck15, .s Ck16] .n (valE (nmL ([a0, a1] ++ ([] : List Int))) sk12.e) (valH (nmL ([a0, a1] ++ ([] : List Int))) sk12.h)
    refine Fin.step (a := [.s Ck15]) (sem_fr 100000 99) (pieceA_ok lx Bodies.xc Bodies.tabOkS sk1p3 (l := [a0, a1]) (fits_cons l0 u0 (fits_cons l1 u1 fits_nil)) trivial (σ := nmL ([a0, a1] ++ ([] : List Int))) (fun i _ => by simp only [nmL, List.append_nil])) ?_
    show Fin (mkX Tryz.prog) (sem (mkX Tryz.prog) 100000 99) 100000 Tryz.f13.results.toList _ [.s Ck16] .n (valE (nmL ([a0, a1] ++ ([] : List Int))) sk13.e) (valH (nmL ([a0, a1] ++ ([] : List Int))) sk13.h)
    refine Fin.deep (a := []) (deep_seq Ck16 [] (by kernel_rfl)) ?_
    show Fin (mkX Tryz.prog) (sem (mkX Tryz.prog) 100000 99) 100000 Tryz.f13.results.toList _ [.s Ck17, .s Ck18] .n (valE (nmL ([a0, a1] ++ ([] : List Int))) sk13.e) (valH (nmL ([a0, a1] ++ ([] : List Int))) sk13.h)
    refine Fin.call3 sk1c4r sk1c4a sk1c4b sk1c4d sk1c4e sk1c4f sk1c4g sk1c4h sk1c4i sk1c4j (call_known (upRan a0 a1 []) (okU_ok sk1c4u _).1 (okU_ok sk1c4u _).2) (sk1c4v _) ?_
    show Fin (mkX Tryz.prog) (sem (mkX Tryz.prog) 100000 99) 100000 Tryz.f13.results.toList _ [.s Ck18] .n (valE (nmL ([a0, a1] ++ ([] : List Int))) sk14.e) (valH (nmL ([a0, a1] ++ ([] : List Int))) sk14.h)
    refine Fin.deep (a := []) (deep_seq Ck18 [] (by kernel_rfl)) ?_
    show Fin (mkX Tryz.prog) (sem (mkX Tryz.prog) 100000 99) 100000 Tryz.f13.results.toList _ [.s Ck19, .s Ck110] .n (valE (nmL ([a0, a1] ++ ([] : List Int))) sk14.e) (valH (nmL ([a0, a1] ++ ([] : List Int))) sk14.h)
    refine Fin.step (a := [.s Ck19]) (sem_fr 100000 99) (piece_ok (l := [a0, a1]) Bodies.xc Bodies.tabOkS sk1p5 rfl trivial []) ?_
    show Fin (mkX Tryz.prog) (sem (mkX Tryz.prog) 100000 99) 100000 Tryz.f13.results.toList _ [.s Ck110] .n (valE (nmL ([a0, a1] ++ ([] : List Int))) sk15.e) (valH (nmL ([a0, a1] ++ ([] : List Int))) sk15.h)
    refine Fin.deep (a := []) (deep_seq Ck110 [] (by kernel_rfl)) ?_
    show Fin (mkX Tryz.prog) (sem (mkX Tryz.prog) 100000 99) 100000 Tryz.f13.results.toList _ [.s Ck111, .s Ck112] .n (valE (nmL ([a0, a1] ++ ([] : List Int))) sk15.e) (valH (nmL ([a0, a1] ++ ([] : List Int))) sk15.h)
    exact Go.Am.Fin.last (sem_fr 100000 99) z1 z2 z3 (fun g _ => rfl)
  have := law_of_fin (n := 99) (args := [.i .i64 (.ofNat 1), nameV .i64 0, nameV .i64 1]) (tb := []) (ρ := nmL ([a0, a1] ++ ([] : List Int))) Tryz.func13 (by rw [lx]; kernel_rfl) (by kernel_rfl) F
  have hv : vals (nmL ([a0, a1] ++ ([] : List Int))) [.i .i64 (.ofNat 1), nameV .i64 0, nameV .i64 1] = [.i .i64 1, .i .i64 a0, .i .i64 a1] := by
    simp only [vals, val, val_nameV]
    rfl
  rw [hv] at this
  exact this
theorem k2ran (a0 a1 : Int) (l0 : (-9223372036854775808 : Int) ≤ a0) (u0 : a0 ≤ (9223372036854775807 : Int)) (l1 : (1 : Int) ≤ a1) (u1 : a1 ≤ (65535 : Int)) : ∃ h', sem (mkX Tryz.prog) 100000 100 13 [.i .i64 2, .i .i64 a0, .i .i64 a1] ⟨16, lay []⟩ = some (.b true, h') := by
  have E : ∃ q' e' h', thenF (mkX Tryz.prog) (sem (mkX Tryz.prog) 100000 99) 100000 [.s Ck211, .s Ck212] sk25.q (valE (nmL ([a0, a1] ++ ([] : List Int))) sk25.e) (valH (nmL ([a0, a1] ++ ([] : List Int))) sk25.h) = some (q', e', h') ∧ (q' = .n ∨ q' = .r) ∧ resL (mkX Tryz.prog) e' h' Tryz.f13.results.toList = some [.b true] := by
    have hc : (a1 = 68) ∨ (a1 ≤ 39999 ∧ a1 ≠ 68) ∨ (40000 ≤ a1) := by omega
    rcases hc with hc | hc | hc
    · exact endA_ok (l := [a0, a1]) lx Bodies.xc Bodies.tabOkS sk2pe0 (fits_cons l0 u0 (fits_cons (by omega) (by omega) fits_nil)) trivial (σ := nmL ([a0, a1] ++ ([] : List Int))) (fun i _ => by simp only [nmL, List.append_nil])
    · exact endA_ok (l := [a0, a1]) lx Bodies.xc Bodies.tabOkS sk2pe1 (fits_cons l0 u0 (fits_cons (by omega) (by omega) fits_nil)) ⟨⟨by simp, by simp only [List.getD_cons_zero, List.getD_cons_succ]; omega⟩, trivial⟩ (σ := nmL ([a0, a1] ++ ([] : List Int))) (fun i _ => by simp only [nmL, List.append_nil])
    · exact endA_ok (l := [a0, a1]) lx Bodies.xc Bodies.tabOkS sk2pe2 (fits_cons l0 u0 (fits_cons (by omega) (by omega) fits_nil)) trivial (σ := nmL ([a0, a1] ++ ([] : List Int))) (fun i _ => by simp only [nmL, List.append_nil])
  obtain ⟨q', e', h', z1, z2, z3⟩ := E
  have F : Fin (mkX Tryz.prog) (sem (mkX Tryz.prog) 100000 99) 100000 Tryz.f13.results.toList (fun v _ => v = .b true) [.s Ck20] .n (valE (nmL ([a0, a1] ++ ([] : List Int))) sk20.e) (valH (nmL ([a0, a1] ++ ([] : List Int))) sk20.h) := by
    refine Fin.deep (a := []) (deep_seq Ck20 [] (by kernel_rfl)) ?_
    show Fin (mkX Tryz.prog) (sem (mkX Tryz.prog) 100000 99) 100000 Tryz.f13.results.toList _ [.s Ck21, .s Ck22] .n (valE (nmL ([a0, a1] ++ ([] : List Int))) sk20.e) (valH (nmL ([a0, a1] ++ ([] : List Int))) sk20.h)
    refine Fin.step (a := [.s Ck21]) (sem_fr 100000 99) (piece_ok (l := [a0, a1]) Bodies.xc Bodies.tabOkS sk2p1 rfl trivial []) ?_
    show Fin (mkX Tryz.prog) (sem (mkX Tryz.prog) 100000 99) 100000 Tryz.f13.results.toList _ [.s Ck22] .n (valE (nmL ([a0, a1] ++ ([] : List Int))) sk21.e) (valH (nmL ([a0, a1] ++ ([] : List Int))) sk21.h)
    refine Fin.deep (a := []) (deep_seq Ck22 [] (by kernel_rfl)) ?_
    show Fin (mkX Tryz.prog) (sem (mkX Tryz.prog) 100000 99) 100000 Tryz.f13.results.toList _ [.s Ck23, .s Ck24] .n (valE (nmL ([a0, a1] ++ ([] : List Int))) sk21.e) (valH (nmL ([a0, a1] ++ ([] : List Int))) sk21.h)
    refine Fin.step (a := [.s Ck23]) (sem_fr 100000 99) (piece_ok (l := [a0, a1]) Bodies.xc Bodies.tabOkS sk2p2 rfl trivial []) ?_
    show Fin (mkX Tryz.prog) (sem (mkX Tryz.prog) 100000 99) 100000 Tryz.f13.results.toList _ [.s Ck24] .n (valE (nmL ([a0, a1] ++ ([] : List Int))) sk22.e) (valH (nmL ([a0, a1] ++ ([] : List Int))) sk22.h)
    refine Fin.deep (a := []) (deep_seq Ck24 [] (by kernel_rfl)) ?_
    show Fin (mkX Tryz.prog) (sem (mkX Tryz.prog) 100000 99) 100000 Tryz.f13.results.toList _ [.s Ck25, .s Ck26] .n (valE (nmL ([a0, a1] ++ ([] : List Int))) sk22.e) (valH (nmL ([a0, a1] ++ ([] : List Int))) sk22.h)
    refine Fin.step (a := [.s Ck25]) (sem_fr 100000 99) (pieceA_ok lx Bodies.xc Bodies.tabOkS sk2p3 (l := [a0, a1]) (fits_cons l0 u0 (fits_cons l1 u1 fits_nil)) trivial (σ := nmL ([a0, a1] ++ ([] : List Int))) (fun i _ => by simp only [nmL, List.append_nil])) ?_
    show Fin (mkX Tryz.prog) (sem (mkX Tryz.prog) 100000 99) 100000 Tryz.f13.results.toList _ [.s Ck26] .n (valE (nmL ([a0, a1] ++ ([] : List Int))) sk23.e) (valH (nmL ([a0, a1] ++ ([] : List Int))) sk23.h)
    refine Fin.deep (a := []) (deep_seq Ck26 [] (by kernel_rfl)) ?_
    show Fin (mkX Tryz.prog) (sem (mkX Tryz.prog) 100000 99) 100000 Tryz.f13.results.toList _ [.s Ck27, .s Ck28] .n (valE (nmL ([a0, a1] ++ ([] : List Int))) sk23.e) (valH (nmL ([a0, a1] ++ ([] : List Int))) sk23.h)
    refine Fin.call3 sk2c4r sk2c4a sk2c4b sk2c4d sk2c4e sk2c4f sk2c4g sk2c4h sk2c4i sk2c4j (call_known (upRan a0 a1 []) (okU_ok sk2c4u _).1 (okU_ok sk2c4u _).2) (sk2c4v _) ?_
    show Fin (mkX Tryz.prog) (sem (mkX Tryz.prog) 100000 99) 100000 Tryz.f13.results.toList _ [.s Ck28] .n (valE (nmL ([a0, a1] ++ ([] : List Int))) sk24.e) (valH (nmL ([a0, a1] ++ ([] : List Int))) sk24.h)
    refine Fin.deep (a := []) (deep_seq Ck28 [] (by kernel_rfl)) ?_
    show Fin (mkX Tryz.prog) (sem (mkX Tryz.prog) 100000 99) 100000 Tryz.f13.results.toList _ [.s Ck29, .s Ck210] .n (valE (nmL ([a0, a1] ++ ([] : List Int))) sk24.e) (valH (nmL ([a0, a1] ++ ([] : List Int))) sk24.h)
    refine Fin.step (a := [.s Ck29]) (sem_fr 100000 99) (piece_ok (l := [a0, a1]) Bodies.xc Bodies.tabOkS sk2p5 rfl trivial []) ?_
    show Fin (mkX Tryz.prog) (sem (mkX Tryz.prog) 100000 99) 100000 Tryz.f13.results.toList _ [.s Ck210] .n (valE (nmL ([a0, a1] ++ ([] : List Int))) sk25.e) (valH (nmL ([a0, a1] ++ ([] : List Int))) sk25.h)
    refine Fin.deep (a := []) (deep_seq Ck210 [] (by kernel_rfl)) ?_
    show Fin (mkX Tryz.prog) (sem (mkX Tryz.prog) 100000 99) 100000 Tryz.f13.results.toList _ [.s Ck211, .s Ck212] .n (valE (nmL ([a0, a1] ++ ([] : List Int))) sk25.e) (valH (nmL ([a0, a1] ++ ([] : List Int))) sk25.h)
    exact Go.Am.Fin.last (sem_fr 100000 99) z1 z2 z3 (fun g _ => rfl)
  have := law_of_fin (n := 99) (args := [.i .i64 (.ofNat 2), nameV .i64 0, nameV .i64 1]) (tb := []) (ρ := nmL ([a0, a1] ++ ([] : List Int))) Tryz.func13 (by rw [lx]; kernel_rfl) (by kernel_rfl) F
  have hv : vals (nmL ([a0, a1] ++ ([] : List Int))) [.i .i64 (.ofNat 2), nameV .i64 0, nameV .i64 1] = [.i .i64 2, .i .i64 a0, .i .i64 a1] := by
    simp only [vals, val, val_nameV]
    rfl
  rw [hv] at this
  exact this
theorem oran (a0 a1 a2 : Int) (l0 : (-9223372036854775808 : Int) ≤ a0) (u0 : a0 ≤ (9223372036854775807 : Int)) (l1 : (-9223372036854775808 : Int) ≤ a1) (u1 : a1 ≤ (9223372036854775807 : Int)) (l2 : (-9223372036854775808 : Int) ≤ a2) (u2 : a2 ≤ (9223372036854775807 : Int)) (x0 : a0 < 0 ∨ 2 < a0 ∨ a2 < 1 ∨ 65535 < a2) : ∃ h', sem (mkX Tryz.prog) 100000 100 13 [.i .i64 a0, .i .i64 a1, .i .i64 a2] ⟨16, lay []⟩ = some (.b true, h') := by
  obtain ⟨kk, q', e', h', z1, z2, z3⟩ := end_ok (l := [a0, a1, a2]) Bodies.xc Bodies.tabOkS sope ofits (oall a0 a1 a2 l0 u0 l1 u1 l2 u2 x0)
  have F : Fin (mkX Tryz.prog) (sem (mkX Tryz.prog) 100000 99) 100000 Tryz.f13.results.toList (fun v _ => v = .b true) [.s Co0] .n (valE (nmL ([a0, a1, a2] ++ kk)) so0.e) (valH (nmL ([a0, a1, a2] ++ kk)) so0.h) := by
    refine Fin.deep (a := []) (deep_seq Co0 [] (by kernel_rfl)) ?_
    show Fin (mkX Tryz.prog) (sem (mkX Tryz.prog) 100000 99) 100000 Tryz.f13.results.toList _ [.s Co1, .s Co2] .n (valE (nmL ([a0, a1, a2] ++ kk)) so0.e) (valH (nmL ([a0, a1, a2] ++ kk)) so0.h)
    refine Fin.step (a := [.s Co1]) (sem_fr 100000 99) (piece_ok (l := [a0, a1, a2]) Bodies.xc Bodies.tabOkS sop1 rfl trivial kk) ?_
    show Fin (mkX Tryz.prog) (sem (mkX Tryz.prog) 100000 99) 100000 Tryz.f13.results.toList _ [.s Co2] .n (valE (nmL ([a0, a1, a2] ++ kk)) so1.e) (valH (nmL ([a0, a1, a2] ++ kk)) so1.h)
    refine Fin.deep (a := []) (deep_seq Co2 [] (by kernel_rfl)) ?_
    show Fin (mkX Tryz.prog) (sem (mkX Tryz.prog) 100000 99) 100000 Tryz.f13.results.toList _ [.s Co3, .s Co4] .n (valE (nmL ([a0, a1, a2] ++ kk)) so1.e) (valH (nmL ([a0, a1, a2] ++ kk)) so1.h)
    refine Fin.step (a := [.s Co3]) (sem_fr 100000 99) (piece_ok (l := [a0, a1, a2]) Bodies.xc Bodies.tabOkS sop2 rfl trivial kk) ?_
    show Fin (mkX Tryz.prog) (sem (mkX Tryz.prog) 100000 99) 100000 Tryz.f13.results.toList _ [.s Co4] .n (valE (nmL ([a0, a1, a2] ++ kk)) so2.e) (valH (nmL ([a0, a1, a2] ++ kk)) so2.h)
    refine Fin.deep (a := []) (deep_seq Co4 [] (by kernel_rfl)) ?_
    show Fin (mkX Tryz.prog) (sem (mkX Tryz.prog) 100000 99) 100000 Tryz.f13.results.toList _ [.s Co5, .s Co6] .n (valE (nmL ([a0, a1, a2] ++ kk)) so2.e) (valH (nmL ([a0, a1, a2] ++ kk)) so2.h)
    refine Fin.deep (a := []) (deep_seq Co5 [.s Co6] (by kernel_rfl)) ?_
    show Fin (mkX Tryz.prog) (sem (mkX Tryz.prog) 100000 99) 100000 Tryz.f13.results.toList _ [.s Co7, .s Co8, .s Co6] .n (valE (nmL ([a0, a1, a2] ++ kk)) so2.e) (valH (nmL ([a0, a1, a2] ++ kk)) so2.h)
    exact Go.Am.Fin.last (sem_fr 100000 99) z1 z2 z3 (fun g _ => rfl)
  have := law_of_fin (n := 99) (args := [nameV .i64 0, nameV .i64 1, nameV .i64 2]) (tb := []) (ρ := nmL ([a0, a1, a2] ++ kk)) Tryz.func13 (by rw [lx]; kernel_rfl) (by kernel_rfl) F
  have hv : vals (nmL ([a0, a1, a2] ++ kk)) [nameV .i64 0, nameV .i64 1, nameV .i64 2] = [.i .i64 a0, .i .i64 a1, .i .i64 a2] := by
    simp only [vals, val, val_nameV]
    rfl
  rw [hv] at this
  exact this
end Go.Proofs.YtcebbmappnbegaaGreatDoor.topFaults
