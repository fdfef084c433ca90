/- TopHair: its run, out of its pieces. -/
import Derived.Test.YtcebbmappnbegaaGreatDoorTopHairR0
import Derived.Test.YtcebbmappnbegaaGreatDoorTopHairR1
import Derived.Test.YtcebbmappnbegaaGreatDoorTopHairR2
import Derived.Test.YtcebbmappnbegaaGreatDoorTopHairR3
import Derived.Test.YtcebbmappnbegaaGreatDoorTopHairR4
import Derived.Test.YtcebbmappnbegaaGreatDoorTopHairR5
import Derived.Test.YtcebbmappnbegaaGreatDoorTopHairR6
import Derived.Test.YtcebbmappnbegaaGreatDoorTopHairR7
import Derived.Test.YtcebbmappnbegaaGreatDoorTopHairR8
import Derived.Test.YtcebbmappnbegaaGreatDoorTopHairR9
import Derived.Test.YtcebbmappnbegaaGreatDoorYtceLx
set_option linter.unusedSimpArgs false
set_option linter.unusedVariables false
set_option linter.unusedSectionVars false
set_option linter.unnecessarySimpa false
set_option maxRecDepth 100000
namespace Go.Proofs.YtcebbmappnbegaaGreatDoor.topHair
open Go.Am Go.Proofs.YtcebbmappnbegaaGreatDoor.Facts
noncomputable abbrev FW0 := Fin (mkX Tryz.prog) (sem (mkX Tryz.prog) 100000 98) 100000 Tryz.f40.results.toList
noncomputable abbrev FW1 := Fin (mkX Tryz.prog) (sem (mkX Tryz.prog) 100000 99) 100000 Tryz.f14.results.toList
theorem upRan (a0 a1 : Int) (kk : List Int) : ∃ h', sem (mkX Tryz.prog) 100000 99 40 [] ⟨228, .l⟩ = some ((.p 415 0), h') ∧ Sub (valH (nmL ([a0, a1] ++ kk)) ut12.h) h' := by
  refine call_of_fin (n := 98) (ρ := nmL ([a0, a1] ++ kk)) Tryz.func40 (by rw [lx]; kernel_rfl) (by kernel_rfl) ?_
  show FW0 _ [.s K0] .n (valE (nmL ([a0, a1] ++ kk)) ut0.e) (valH (nmL ([a0, a1] ++ kk)) ut0.h)
  refine Fin.deep (a := []) (deep_seq K0 [] (by kernel_rfl)) ?_
  show FW0 _ [.s K1, .s K2] .n (valE (nmL ([a0, a1] ++ kk)) ut0.e) (valH (nmL ([a0, a1] ++ kk)) ut0.h)
  refine Fin.deep (a := [.s K1]) (deep_seq K2 [] (by kernel_rfl)) ?_
  show FW0 _ [.s K1, .s K3, .s K4] .n (valE (nmL ([a0, a1] ++ kk)) ut0.e) (valH (nmL ([a0, a1] ++ kk)) ut0.h)
  refine Fin.deep (a := [.s K1, .s K3]) (deep_seq K4 [] (by kernel_rfl)) ?_
  show FW0 _ [.s K1, .s K3, .s K5, .s K6] .n (valE (nmL ([a0, a1] ++ kk)) ut0.e) (valH (nmL ([a0, a1] ++ kk)) ut0.h)
  refine Fin.deep (a := [.s K1, .s K3, .s K5]) (deep_seq K6 [] (by kernel_rfl)) ?_
  show FW0 _ [.s K1, .s K3, .s K5, .s K7, .s K8] .n (valE (nmL ([a0, a1] ++ kk)) ut0.e) (valH (nmL ([a0, a1] ++ kk)) ut0.h)
  refine Fin.deep (a := [.s K1, .s K3, .s K5, .s K7]) (deep_seq K8 [] (by kernel_rfl)) ?_
  show FW0 _ [.s K1, .s K3, .s K5, .s K7, .s K9, .s K10] .n (valE (nmL ([a0, a1] ++ kk)) ut0.e) (valH (nmL ([a0, a1] ++ kk)) ut0.h)
  refine Fin.step (a := [.s K1, .s K3, .s K5, .s K7]) (sem_fr 100000 98) (piece_ok (l := [a0, a1]) Bodies.xc Bodies.tabOkS utp1 rfl trivial kk) ?_
  show FW0 _ [.s K9, .s K10] .n (valE (nmL ([a0, a1] ++ kk)) ut1.e) (valH (nmL ([a0, a1] ++ kk)) ut1.h)
  refine Fin.deep (a := [.s K9]) (deep_seq K10 [] (by kernel_rfl)) ?_
  show FW0 _ [.s K9, .s K11, .s K12] .n (valE (nmL ([a0, a1] ++ kk)) ut1.e) (valH (nmL ([a0, a1] ++ kk)) ut1.h)
  refine Fin.step (a := [.s K9]) (sem_fr 100000 98) (piece_ok (l := [a0, a1]) Bodies.xc Bodies.tabOkS utp2 rfl trivial kk) ?_
  show FW0 _ [.s K11, .s K12] .n (valE (nmL ([a0, a1] ++ kk)) ut2.e) (valH (nmL ([a0, a1] ++ kk)) ut2.h)
  refine Fin.deep (a := [.s K11]) (deep_seq K12 [] (by kernel_rfl)) ?_
  show FW0 _ [.s K11, .s K13, .s K14] .n (valE (nmL ([a0, a1] ++ kk)) ut2.e) (valH (nmL ([a0, a1] ++ kk)) ut2.h)
  refine Fin.deep (a := [.s K11]) (deep_seq K13 [.s K14] (by kernel_rfl)) ?_
  show FW0 _ [.s K11, .s K15, .s K16, .s K14] .n (valE (nmL ([a0, a1] ++ kk)) ut2.e) (valH (nmL ([a0, a1] ++ kk)) ut2.h)
  refine Fin.step (a := [.s K11, .s K15]) (sem_fr 100000 98) (piece_ok (l := [a0, a1]) Bodies.xc Bodies.tabOkS utp3 rfl trivial kk) ?_
  show FW0 _ [.s K16, .s K14] .n (valE (nmL ([a0, a1] ++ kk)) ut3.e) (valH (nmL ([a0, a1] ++ kk)) ut3.h)
  refine Fin.block' (n := K16) (by kernel_rfl) ?_
  show FW0 _ [.s K17, .b 0, .s K14] .n (valE (nmL ([a0, a1] ++ kk)) ut3.e) (valH (nmL ([a0, a1] ++ kk)) ut3.h)
  refine Fin.deep (a := []) (deep_loop K17 [.b 0, .s K14] (by kernel_rfl)) ?_
  show FW0 _ [.l K18 100000, .b 0, .s K14] .n (valE (nmL ([a0, a1] ++ kk)) ut3.e) (valH (nmL ([a0, a1] ++ kk)) ut3.h)
  refine Fin.deep (a := []) (deep_round K18 99999 [.b 0, .s K14]) ?_
  show FW0 _ [.s K18, .l K18 99999, .b 0, .s K14] .n (valE (nmL ([a0, a1] ++ kk)) ut3.e) (valH (nmL ([a0, a1] ++ kk)) ut3.h)
  refine Fin.deep (a := []) (deep_seq K18 [.l K18 99999, .b 0, .s K14] (by kernel_rfl)) ?_
  show FW0 _ [.s K19, .s K20, .l K18 99999, .b 0, .s K14] .n (valE (nmL ([a0, a1] ++ kk)) ut3.e) (valH (nmL ([a0, a1] ++ kk)) ut3.h)
  refine Fin.deep (a := [.s K19]) (deep_seq K20 [.l K18 99999, .b 0, .s K14] (by kernel_rfl)) ?_
  show FW0 _ [.s K19, .s K21, .s K22, .l K18 99999, .b 0, .s K14] .n (valE (nmL ([a0, a1] ++ kk)) ut3.e) (valH (nmL ([a0, a1] ++ kk)) ut3.h)
  refine Fin.step (a := [.s K19]) (sem_fr 100000 98) (piece_ok (l := [a0, a1]) Bodies.xc Bodies.tabOkS utp4 rfl trivial kk) ?_
  show FW0 _ [.s K21, .s K22, .l K18 99999, .b 0, .s K14] .n (valE (nmL ([a0, a1] ++ kk)) ut4.e) (valH (nmL ([a0, a1] ++ kk)) ut4.h)
  refine Fin.block' (n := K21) (by kernel_rfl) ?_
  show FW0 _ [.s K23, .b 1, .s K22, .l K18 99999, .b 0, .s K14] .n (valE (nmL ([a0, a1] ++ kk)) ut4.e) (valH (nmL ([a0, a1] ++ kk)) ut4.h)
  refine Fin.deep (a := []) (deep_seq K23 [.b 1, .s K22, .l K18 99999, .b 0, .s K14] (by kernel_rfl)) ?_
  show FW0 _ [.s K24, .s K25, .b 1, .s K22, .l K18 99999, .b 0, .s K14] .n (valE (nmL ([a0, a1] ++ kk)) ut4.e) (valH (nmL ([a0, a1] ++ kk)) ut4.h)
  refine Fin.step (a := [.s K24]) (sem_fr 100000 98) (piece_ok (l := [a0, a1]) Bodies.xc Bodies.tabOkS utp5 rfl trivial kk) ?_
  show FW0 _ [.s K25, .b 1, .s K22, .l K18 99999, .b 0, .s K14] .n (valE (nmL ([a0, a1] ++ kk)) ut5.e) (valH (nmL ([a0, a1] ++ kk)) ut5.h)
  refine Fin.step (a := [.s K25, .b 1, .s K22]) (sem_fr 100000 98) (piece_ok (l := [a0, a1]) Bodies.xc Bodies.tabOkS utp6 rfl trivial kk) ?_
  show FW0 _ [.l K18 99999, .b 0, .s K14] .n (valE (nmL ([a0, a1] ++ kk)) ut6.e) (valH (nmL ([a0, a1] ++ kk)) ut6.h)
  refine Fin.deep (a := []) (deep_round K18 99998 [.b 0, .s K14]) ?_
  show FW0 _ [.s K18, .l K18 99998, .b 0, .s K14] .n (valE (nmL ([a0, a1] ++ kk)) ut6.e) (valH (nmL ([a0, a1] ++ kk)) ut6.h)
  refine Fin.deep (a := []) (deep_seq K18 [.l K18 99998, .b 0, .s K14] (by kernel_rfl)) ?_
  show FW0 _ [.s K26, .s K27, .l K18 99998, .b 0, .s K14] .n (valE (nmL ([a0, a1] ++ kk)) ut6.e) (valH (nmL ([a0, a1] ++ kk)) ut6.h)
  refine Fin.deep (a := [.s K26]) (deep_seq K27 [.l K18 99998, .b 0, .s K14] (by kernel_rfl)) ?_
  show FW0 _ [.s K26, .s K28, .s K29, .l K18 99998, .b 0, .s K14] .n (valE (nmL ([a0, a1] ++ kk)) ut6.e) (valH (nmL ([a0, a1] ++ kk)) ut6.h)
  refine Fin.step (a := [.s K26]) (sem_fr 100000 98) (piece_ok (l := [a0, a1]) Bodies.xc Bodies.tabOkS utp7 rfl trivial kk) ?_
  show FW0 _ [.s K28, .s K29, .l K18 99998, .b 0, .s K14] .n (valE (nmL ([a0, a1] ++ kk)) ut7.e) (valH (nmL ([a0, a1] ++ kk)) ut7.h)
  refine Fin.block' (n := K28) (by kernel_rfl) ?_
  show FW0 _ [.s K30, .b 1, .s K29, .l K18 99998, .b 0, .s K14] .n (valE (nmL ([a0, a1] ++ kk)) ut7.e) (valH (nmL ([a0, a1] ++ kk)) ut7.h)
  refine Fin.deep (a := []) (deep_seq K30 [.b 1, .s K29, .l K18 99998, .b 0, .s K14] (by kernel_rfl)) ?_
  show FW0 _ [.s K31, .s K32, .b 1, .s K29, .l K18 99998, .b 0, .s K14] .n (valE (nmL ([a0, a1] ++ kk)) ut7.e) (valH (nmL ([a0, a1] ++ kk)) ut7.h)
  refine Fin.step (a := [.s K31]) (sem_fr 100000 98) (piece_ok (l := [a0, a1]) Bodies.xc Bodies.tabOkS utp8 rfl trivial kk) ?_
  show FW0 _ [.s K32, .b 1, .s K29, .l K18 99998, .b 0, .s K14] .n (valE (nmL ([a0, a1] ++ kk)) ut8.e) (valH (nmL ([a0, a1] ++ kk)) ut8.h)
  refine Fin.step (a := [.s K32, .b 1, .s K29]) (sem_fr 100000 98) (piece_ok (l := [a0, a1]) Bodies.xc Bodies.tabOkS utp9 rfl trivial kk) ?_
  show FW0 _ [.l K18 99998, .b 0, .s K14] .n (valE (nmL ([a0, a1] ++ kk)) ut9.e) (valH (nmL ([a0, a1] ++ kk)) ut9.h)
  refine Fin.deep (a := []) (deep_round K18 99997 [.b 0, .s K14]) ?_
  show FW0 _ [.s K18, .l K18 99997, .b 0, .s K14] .n (valE (nmL ([a0, a1] ++ kk)) ut9.e) (valH (nmL ([a0, a1] ++ kk)) ut9.h)
  refine Fin.deep (a := []) (deep_seq K18 [.l K18 99997, .b 0, .s K14] (by kernel_rfl)) ?_
  show FW0 _ [.s K33, .s K34, .l K18 99997, .b 0, .s K14] .n (valE (nmL ([a0, a1] ++ kk)) ut9.e) (valH (nmL ([a0, a1] ++ kk)) ut9.h)
  refine Fin.deep (a := [.s K33]) (deep_seq K34 [.l K18 99997, .b 0, .s K14] (by kernel_rfl)) ?_
  show FW0 _ [.s K33, .s K35, .s K36, .l K18 99997, .b 0, .s K14] .n (valE (nmL ([a0, a1] ++ kk)) ut9.e) (valH (nmL ([a0, a1] ++ kk)) ut9.h)
  refine Fin.step (a := [.s K33]) (sem_fr 100000 98) (piece_ok (l := [a0, a1]) Bodies.xc Bodies.tabOkS utp10 rfl trivial kk) ?_
  show FW0 _ [.s K35, .s K36, .l K18 99997, .b 0, .s K14] .n (valE (nmL ([a0, a1] ++ kk)) ut10.e) (valH (nmL ([a0, a1] ++ kk)) ut10.h)
  refine Fin.block' (n := K35) (by kernel_rfl) ?_
  show FW0 _ [.s K37, .b 1, .s K36, .l K18 99997, .b 0, .s K14] .n (valE (nmL ([a0, a1] ++ kk)) ut10.e) (valH (nmL ([a0, a1] ++ kk)) ut10.h)
  refine Fin.deep (a := []) (deep_seq K37 [.b 1, .s K36, .l K18 99997, .b 0, .s K14] (by kernel_rfl)) ?_
  show FW0 _ [.s K38, .s K39, .b 1, .s K36, .l K18 99997, .b 0, .s K14] .n (valE (nmL ([a0, a1] ++ kk)) ut10.e) (valH (nmL ([a0, a1] ++ kk)) ut10.h)
  refine Fin.step (a := [.s K38]) (sem_fr 100000 98) (piece_ok (l := [a0, a1]) Bodies.xc Bodies.tabOkS utp11 rfl trivial kk) ?_
  show FW0 _ [.s K39, .b 1, .s K36, .l K18 99997, .b 0, .s K14] .n (valE (nmL ([a0, a1] ++ kk)) ut11.e) (valH (nmL ([a0, a1] ++ kk)) ut11.h)
  exact Fin.ret (sem_fr 100000 98) (piece_ok (l := [a0, a1]) Bodies.xc Bodies.tabOkS utp12 rfl trivial kk) (Or.inr rfl) (resL_val (ρ := nmL ([a0, a1] ++ kk)) _ utrv) (fun g s => ⟨rfl, s⟩)
theorem k00ran (a0 a1 : Int) (l0 : (1024 : Int) ≤ a0) (u0 : a0 ≤ (39999 : Int)) (l1 : (1 : Int) ≤ a1) (u1 : a1 ≤ (65535 : Int)) : ∃ h', sem (mkX Tryz.prog) 100000 100 14 [.i .i64 0, .i .i64 0, .i .i64 a0, .i .i64 a1] ⟨16, lay []⟩ = some (.b true, h') := by
  have E : ∃ q' e' h', thenF (mkX Tryz.prog) (sem (mkX Tryz.prog) 100000 99) 100000 [.s Ck0010] sk005.q (valE (nmL ([a0, a1] ++ ([] : List Int))) sk005.e) (valH (nmL ([a0, a1] ++ ([] : List Int))) sk005.h) = some (q', e', h') ∧ (q' = .n ∨ q' = .r) ∧ resL (mkX Tryz.prog) e' h' Tryz.f14.results.toList = some [.b true] := by
    have hc : (a1 ≤ 39999) ∨ (40000 ≤ a1) := by omega
    rcases hc with hc | hc
    · exact endA_ok (l := [a0, a1]) lx Bodies.xc Bodies.tabOkS sk00pe0 (fits_cons l0 u0 (fits_cons (by omega) (by omega) fits_nil)) trivial (σ := nmL ([a0, a1] ++ ([] : List Int))) (fun i _ => by simp only [nmL, List.append_nil])
    · exact endA_ok (l := [a0, a1]) lx Bodies.xc Bodies.tabOkS sk00pe1 (fits_cons l0 u0 (fits_cons (by omega) (by omega) fits_nil)) trivial (σ := nmL ([a0, a1] ++ ([] : List Int))) (fun i _ => by simp only [nmL, List.append_nil])
  obtain ⟨q', e', h', z1, z2, z3⟩ := E
  have F : Fin (mkX Tryz.prog) (sem (mkX Tryz.prog) 100000 99) 100000 Tryz.f14.results.toList (fun v _ => v = .b true) [.s Ck000] .n (valE (nmL ([a0, a1] ++ ([] : List Int))) sk000.e) (valH (nmL ([a0, a1] ++ ([] : List Int))) sk000.h) := by
    refine Fin.deep (a := []) (deep_seq Ck000 [] (by kernel_rfl)) ?_
    show FW1 _ [.s Ck001, .s Ck002] .n (valE (nmL ([a0, a1] ++ ([] : List Int))) sk000.e) (valH (nmL ([a0, a1] ++ ([] : List Int))) sk000.h)
    refine Fin.step (a := [.s Ck001]) (sem_fr 100000 99) (piece_ok (l := [a0, a1]) Bodies.xc Bodies.tabOkS sk00p1 rfl trivial []) ?_
    show FW1 _ [.s Ck002] .n (valE (nmL ([a0, a1] ++ ([] : List Int))) sk001.e) (valH (nmL ([a0, a1] ++ ([] : List Int))) sk001.h)
    refine Fin.deep (a := []) (deep_seq Ck002 [] (by kernel_rfl)) ?_
    show FW1 _ [.s Ck003, .s Ck004] .n (valE (nmL ([a0, a1] ++ ([] : List Int))) sk001.e) (valH (nmL ([a0, a1] ++ ([] : List Int))) sk001.h)
    refine Fin.step (a := [.s Ck003]) (sem_fr 100000 99) (piece_ok (l := [a0, a1]) Bodies.xc Bodies.tabOkS sk00p2 rfl trivial []) ?_
    show FW1 _ [.s Ck004] .n (valE (nmL ([a0, a1] ++ ([] : List Int))) sk002.e) (valH (nmL ([a0, a1] ++ ([] : List Int))) sk002.h)
    refine Fin.deep (a := []) (deep_seq Ck004 [] (by kernel_rfl)) ?_
    show FW1 _ [.s Ck005, .s Ck006] .n (valE (nmL ([a0, a1] ++ ([] : List Int))) sk002.e) (valH (nmL ([a0, a1] ++ ([] : List Int))) sk002.h)
    refine Fin.step (a := [.s Ck005]) (sem_fr 100000 99) (pieceA_ok lx Bodies.xc Bodies.tabOkS sk00p3 (l := [a0, a1]) (fits_cons l0 u0 (fits_cons l1 u1 fits_nil)) trivial (σ := nmL ([a0, a1] ++ ([] : List Int))) (fun i _ => by simp only [nmL, List.append_nil])) ?_
    show FW1 _ [.s Ck006] .n (valE (nmL ([a0, a1] ++ ([] : List Int))) sk003.e) (valH (nmL ([a0, a1] ++ ([] : List Int))) sk003.h)
    refine Fin.deep (a := []) (deep_seq Ck006 [] (by kernel_rfl)) ?_
    show FW1 _ [.s Ck007, .s Ck008] .n (valE (nmL ([a0, a1] ++ ([] : List Int))) sk003.e) (valH (nmL ([a0, a1] ++ ([] : List Int))) sk003.h)
    refine Fin.call3 sk00c4r sk00c4a sk00c4b sk00c4d sk00c4e sk00c4f sk00c4g sk00c4h sk00c4i sk00c4j (call_known (upRan a0 a1 []) (okU_ok sk00c4u _).1 (okU_ok sk00c4u _).2) (sk00c4v _) ?_
    show FW1 _ [.s Ck008] .n (valE (nmL ([a0, a1] ++ ([] : List Int))) sk004.e) (valH (nmL ([a0, a1] ++ ([] : List Int))) sk004.h)
    refine Fin.deep (a := []) (deep_seq Ck008 [] (by kernel_rfl)) ?_
    show FW1 _ [.s Ck009, .s Ck0010] .n (valE (nmL ([a0, a1] ++ ([] : List Int))) sk004.e) (valH (nmL ([a0, a1] ++ ([] : List Int))) sk004.h)
    refine Fin.step (a := [.s Ck009]) (sem_fr 100000 99) (piece_ok (l := [a0, a1]) Bodies.xc Bodies.tabOkS sk00p5 rfl trivial []) ?_
    show FW1 _ [.s Ck0010] .n (valE (nmL ([a0, a1] ++ ([] : List Int))) sk005.e) (valH (nmL ([a0, a1] ++ ([] : List Int))) sk005.h)
    exact Go.Am.Fin.last (sem_fr 100000 99) z1 z2 z3 (fun g _ => rfl)
  have := law_of_fin (n := 99) (args := [.i .i64 (.ofNat 0), .i .i64 (.ofNat 0), nameV .i64 0, nameV .i64 1]) (tb := []) (ρ := nmL ([a0, a1] ++ ([] : List Int))) Tryz.func14 (by rw [lx]; kernel_rfl) (by kernel_rfl) F
  have hv : vals (nmL ([a0, a1] ++ ([] : List Int))) [.i .i64 (.ofNat 0), .i .i64 (.ofNat 0), nameV .i64 0, nameV .i64 1] = [.i .i64 0, .i .i64 0, .i .i64 a0, .i .i64 a1] := by
    simp only [vals, val, val_nameV]
    rfl
  rw [hv] at this
  exact this
theorem k01ran (a0 a1 : Int) (l0 : (1024 : Int) ≤ a0) (u0 : a0 ≤ (39999 : Int)) (l1 : (1 : Int) ≤ a1) (u1 : a1 ≤ (65535 : Int)) : ∃ h', sem (mkX Tryz.prog) 100000 100 14 [.i .i64 0, .i .i64 1, .i .i64 a0, .i .i64 a1] ⟨16, lay []⟩ = some (.b true, h') := by
  have E : ∃ q' e' h', thenF (mkX Tryz.prog) (sem (mkX Tryz.prog) 100000 99) 100000 [.s Ck0110] sk015.q (valE (nmL ([a0, a1] ++ ([] : List Int))) sk015.e) (valH (nmL ([a0, a1] ++ ([] : List Int))) sk015.h) = some (q', e', h') ∧ (q' = .n ∨ q' = .r) ∧ resL (mkX Tryz.prog) e' h' Tryz.f14.results.toList = some [.b true] := by
    have hc : (a1 ≤ 39999) ∨ (40000 ≤ a1) := by omega
    rcases hc with hc | hc
    · exact endA_ok (l := [a0, a1]) lx Bodies.xc Bodies.tabOkS sk01pe0 (fits_cons l0 u0 (fits_cons (by omega) (by omega) fits_nil)) trivial (σ := nmL ([a0, a1] ++ ([] : List Int))) (fun i _ => by simp only [nmL, List.append_nil])
    · exact endA_ok (l := [a0, a1]) lx Bodies.xc Bodies.tabOkS sk01pe1 (fits_cons l0 u0 (fits_cons (by omega) (by omega) fits_nil)) trivial (σ := nmL ([a0, a1] ++ ([] : List Int))) (fun i _ => by simp only [nmL, List.append_nil])
  obtain ⟨q', e', h', z1, z2, z3⟩ := E
  have F : Fin (mkX Tryz.prog) (sem (mkX Tryz.prog) 100000 99) 100000 Tryz.f14.results.toList (fun v _ => v = .b true) [.s Ck010] .n (valE (nmL ([a0, a1] ++ ([] : List Int))) sk010.e) (valH (nmL ([a0, a1] ++ ([] : List Int))) sk010.h) := by
    refine Fin.deep (a := []) (deep_seq Ck010 [] (by kernel_rfl)) ?_
    show FW1 _ [.s Ck011, .s Ck012] .n (valE (nmL ([a0, a1] ++ ([] : List Int))) sk010.e) (valH (nmL ([a0, a1] ++ ([] : List Int))) sk010.h)
    refine Fin.step (a := [.s Ck011]) (sem_fr 100000 99) (piece_ok (l := [a0, a1]) Bodies.xc Bodies.tabOkS sk01p1 rfl trivial []) ?_
    show FW1 _ [.s Ck012] .n (valE (nmL ([a0, a1] ++ ([] : List Int))) sk011.e) (valH (nmL ([a0, a1] ++ ([] : List Int))) sk011.h)
    refine Fin.deep (a := []) (deep_seq Ck012 [] (by kernel_rfl)) ?_
    show FW1 _ [.s Ck013, .s Ck014] .n (valE (nmL ([a0, a1] ++ ([] : List Int))) sk011.e) (valH (nmL ([a0, a1] ++ ([] : List Int))) sk011.h)
    refine Fin.step (a := [.s Ck013]) (sem_fr 100000 99) (piece_ok (l := [a0, a1]) Bodies.xc Bodies.tabOkS sk01p2 rfl trivial []) ?_
    show FW1 _ [.s Ck014] .n (valE (nmL ([a0, a1] ++ ([] : List Int))) sk012.e) (valH (nmL ([a0, a1] ++ ([] : List Int))) sk012.h)
    refine Fin.deep (a := []) (deep_seq Ck014 [] (by kernel_rfl)) ?_
    show FW1 _ [.s Ck015, .s Ck016] .n (valE (nmL ([a0, a1] ++ ([] : List Int))) sk012.e) (valH (nmL ([a0, a1] ++ ([] : List Int))) sk012.h)
    refine Fin.step (a := [.s Ck015]) (sem_fr 100000 99) (pieceA_ok lx Bodies.xc Bodies.tabOkS sk01p3 (l := [a0, a1]) (fits_cons l0 u0 (fits_cons l1 u1 fits_nil)) trivial (σ := nmL ([a0, a1] ++ ([] : List Int))) (fun i _ => by simp only [nmL, List.append_nil])) ?_
    show FW1 _ [.s Ck016] .n (valE (nmL ([a0, a1] ++ ([] : List Int))) sk013.e) (valH (nmL ([a0, a1] ++ ([] : List Int))) sk013.h)
    refine Fin.deep (a := []) (deep_seq Ck016 [] (by kernel_rfl)) ?_
    show FW1 _ [.s Ck017, .s Ck018] .n (valE (nmL ([a0, a1] ++ ([] : List Int))) sk013.e) (valH (nmL ([a0, a1] ++ ([] : List Int))) sk013.h)
    refine Fin.call3 sk01c4r sk01c4a sk01c4b sk01c4d sk01c4e sk01c4f sk01c4g sk01c4h sk01c4i sk01c4j (call_known (upRan a0 a1 []) (okU_ok sk01c4u _).1 (okU_ok sk01c4u _).2) (sk01c4v _) ?_
    show FW1 _ [.s Ck018] .n (valE (nmL ([a0, a1] ++ ([] : List Int))) sk014.e) (valH (nmL ([a0, a1] ++ ([] : List Int))) sk014.h)
    refine Fin.deep (a := []) (deep_seq Ck018 [] (by kernel_rfl)) ?_
    show FW1 _ [.s Ck019, .s Ck0110] .n (valE (nmL ([a0, a1] ++ ([] : List Int))) sk014.e) (valH (nmL ([a0, a1] ++ ([] : List Int))) sk014.h)
    refine Fin.step (a := [.s Ck019]) (sem_fr 100000 99) (piece_ok (l := [a0, a1]) Bodies.xc Bodies.tabOkS sk01p5 rfl trivial []) ?_
    show FW1 _ [.s Ck0110] .n (valE (nmL ([a0, a1] ++ ([] : List Int))) sk015.e) (valH (nmL ([a0, a1] ++ ([] : List Int))) sk015.h)
    exact Go.Am.Fin.last (sem_fr 100000 99) z1 z2 z3 (fun g _ => rfl)
  have := law_of_fin (n := 99) (args := [.i .i64 (.ofNat 0), .i .i64 (.ofNat 1), nameV .i64 0, nameV .i64 1]) (tb := []) (ρ := nmL ([a0, a1] ++ ([] : List Int))) Tryz.func14 (by rw [lx]; kernel_rfl) (by kernel_rfl) F
  have hv : vals (nmL ([a0, a1] ++ ([] : List Int))) [.i .i64 (.ofNat 0), .i .i64 (.ofNat 1), nameV .i64 0, nameV .i64 1] = [.i .i64 0, .i .i64 1, .i .i64 a0, .i .i64 a1] := by
    simp only [vals, val, val_nameV]
    rfl
  rw [hv] at this
  exact this
theorem k02ran (a0 a1 : Int) (l0 : (1024 : Int) ≤ a0) (u0 : a0 ≤ (39999 : Int)) (l1 : (1 : Int) ≤ a1) (u1 : a1 ≤ (65535 : Int)) : ∃ h', sem (mkX Tryz.prog) 100000 100 14 [.i .i64 0, .i .i64 2, .i .i64 a0, .i .i64 a1] ⟨16, lay []⟩ = some (.b true, h') := by
  have E : ∃ q' e' h', thenF (mkX Tryz.prog) (sem (mkX Tryz.prog) 100000 99) 100000 [.s Ck0210] sk025.q (valE (nmL ([a0, a1] ++ ([] : List Int))) sk025.e) (valH (nmL ([a0, a1] ++ ([] : List Int))) sk025.h) = some (q', e', h') ∧ (q' = .n ∨ q' = .r) ∧ resL (mkX Tryz.prog) e' h' Tryz.f14.results.toList = some [.b true] := by
    have hc : (a1 ≤ 39999) ∨ (40000 ≤ a1) := by omega
    rcases hc with hc | hc
    · exact endA_ok (l := [a0, a1]) lx Bodies.xc Bodies.tabOkS sk02pe0 (fits_cons l0 u0 (fits_cons (by omega) (by omega) fits_nil)) trivial (σ := nmL ([a0, a1] ++ ([] : List Int))) (fun i _ => by simp only [nmL, List.append_nil])
    · exact endA_ok (l := [a0, a1]) lx Bodies.xc Bodies.tabOkS sk02pe1 (fits_cons l0 u0 (fits_cons (by omega) (by omega) fits_nil)) trivial (σ := nmL ([a0, a1] ++ ([] : List Int))) (fun i _ => by simp only [nmL, List.append_nil])
  obtain ⟨q', e', h', z1, z2, z3⟩ := E
  have F : Fin (mkX Tryz.prog) (sem (mkX Tryz.prog) 100000 99) 100000 Tryz.f14.results.toList (fun v _ => v = .b true) [.s Ck020] .n (valE (nmL ([a0, a1] ++ ([] : List Int))) sk020.e) (valH (nmL ([a0, a1] ++ ([] : List Int))) sk020.h) := by
    refine Fin.deep (a := []) (deep_seq Ck020 [] (by kernel_rfl)) ?_
    show FW1 _ [.s Ck021, .s Ck022] .n (valE (nmL ([a0, a1] ++ ([] : List Int))) sk020.e) (valH (nmL ([a0, a1] ++ ([] : List Int))) sk020.h)
    refine Fin.step (a := [.s Ck021]) (sem_fr 100000 99) (piece_ok (l := [a0, a1]) Bodies.xc Bodies.tabOkS sk02p1 rfl trivial []) ?_
    show FW1 _ [.s Ck022] .n (valE (nmL ([a0, a1] ++ ([] : List Int))) sk021.e) (valH (nmL ([a0, a1] ++ ([] : List Int))) sk021.h)
    refine Fin.deep (a := []) (deep_seq Ck022 [] (by kernel_rfl)) ?_
    show FW1 _ [.s Ck023, .s Ck024] .n (valE (nmL ([a0, a1] ++ ([] : List Int))) sk021.e) (valH (nmL ([a0, a1] ++ ([] : List Int))) sk021.h)
    refine Fin.step (a := [.s Ck023]) (sem_fr 100000 99) (piece_ok (l := [a0, a1]) Bodies.xc Bodies.tabOkS sk02p2 rfl trivial []) ?_
    show FW1 _ [.s Ck024] .n (valE (nmL ([a0, a1] ++ ([] : List Int))) sk022.e) (valH (nmL ([a0, a1] ++ ([] : List Int))) sk022.h)
    refine Fin.deep (a := []) (deep_seq Ck024 [] (by kernel_rfl)) ?_
    show FW1 _ [.s Ck025, .s Ck026] .n (valE (nmL ([a0, a1] ++ ([] : List Int))) sk022.e) (valH (nmL ([a0, a1] ++ ([] : List Int))) sk022.h)
    refine Fin.step (a := [.s Ck025]) (sem_fr 100000 99) (pieceA_ok lx Bodies.xc Bodies.tabOkS sk02p3 (l := [a0, a1]) (fits_cons l0 u0 (fits_cons l1 u1 fits_nil)) trivial (σ := nmL ([a0, a1] ++ ([] : List Int))) (fun i _ => by simp only [nmL, List.append_nil])) ?_
    show FW1 _ [.s Ck026] .n (valE (nmL ([a0, a1] ++ ([] : List Int))) sk023.e) (valH (nmL ([a0, a1] ++ ([] : List Int))) sk023.h)
    refine Fin.deep (a := []) (deep_seq Ck026 [] (by kernel_rfl)) ?_
    show FW1 _ [.s Ck027, .s Ck028] .n (valE (nmL ([a0, a1] ++ ([] : List Int))) sk023.e) (valH (nmL ([a0, a1] ++ ([] : List Int))) sk023.h)
    refine Fin.call3 sk02c4r sk02c4a sk02c4b sk02c4d sk02c4e sk02c4f sk02c4g sk02c4h sk02c4i sk02c4j (call_known (upRan a0 a1 []) (okU_ok sk02c4u _).1 (okU_ok sk02c4u _).2) (sk02c4v _) ?_
    show FW1 _ [.s Ck028] .n (valE (nmL ([a0, a1] ++ ([] : List Int))) sk024.e) (valH (nmL ([a0, a1] ++ ([] : List Int))) sk024.h)
    refine Fin.deep (a := []) (deep_seq Ck028 [] (by kernel_rfl)) ?_
    show FW1 _ [.s Ck029, .s Ck0210] .n (valE (nmL ([a0, a1] ++ ([] : List Int))) sk024.e) (valH (nmL ([a0, a1] ++ ([] : List Int))) sk024.h)
    refine Fin.step (a := [.s Ck029]) (sem_fr 100000 99) (piece_ok (l := [a0, a1]) Bodies.xc Bodies.tabOkS sk02p5 rfl trivial []) ?_
    show FW1 _ [.s Ck0210] .n (valE (nmL ([a0, a1] ++ ([] : List Int))) sk025.e) (valH (nmL ([a0, a1] ++ ([] : List Int))) sk025.h)
    exact Go.Am.Fin.last (sem_fr 100000 99) z1 z2 z3 (fun g _ => rfl)
  have := law_of_fin (n := 99) (args := [.i .i64 (.ofNat 0), .i .i64 (.ofNat 2), nameV .i64 0, nameV .i64 1]) (tb := []) (ρ := nmL ([a0, a1] ++ ([] : List Int))) Tryz.func14 (by rw [lx]; kernel_rfl) (by kernel_rfl) F
  have hv : vals (nmL ([a0, a1] ++ ([] : List Int))) [.i .i64 (.ofNat 0), .i .i64 (.ofNat 2), nameV .i64 0, nameV .i64 1] = [.i .i64 0, .i .i64 2, .i .i64 a0, .i .i64 a1] := by
    simp only [vals, val, val_nameV]
    rfl
  rw [hv] at this
  exact this
theorem k10ran (a0 a1 : Int) (l0 : (1024 : Int) ≤ a0) (u0 : a0 ≤ (39999 : Int)) (l1 : (1 : Int) ≤ a1) (u1 : a1 ≤ (65535 : Int)) : ∃ h', sem (mkX Tryz.prog) 100000 100 14 [.i .i64 1, .i .i64 0, .i .i64 a0, .i .i64 a1] ⟨16, lay []⟩ = some (.b true, h') := by
  have E : ∃ q' e' h', thenF (mkX Tryz.prog) (sem (mkX Tryz.prog) 100000 99) 100000 [.s Ck1010] sk105.q (valE (nmL ([a0, a1] ++ ([] : List Int))) sk105.e) (valH (nmL ([a0, a1] ++ ([] : List Int))) sk105.h) = some (q', e', h') ∧ (q' = .n ∨ q' = .r) ∧ resL (mkX Tryz.prog) e' h' Tryz.f14.results.toList = some [.b true] := by
    have hc : (a1 ≤ 39999) ∨ (40000 ≤ a1) := by omega
    rcases hc with hc | hc
    · exact endA_ok (l := [a0, a1]) lx Bodies.xc Bodies.tabOkS sk10pe0 (fits_cons l0 u0 (fits_cons (by omega) (by omega) fits_nil)) trivial (σ := nmL ([a0, a1] ++ ([] : List Int))) (fun i _ => by simp only [nmL, List.append_nil])
    · exact endA_ok (l := [a0, a1]) lx Bodies.xc Bodies.tabOkS sk10pe1 (fits_cons l0 u0 (fits_cons (by omega) (by omega) fits_nil)) trivial (σ := nmL ([a0, a1] ++ ([] : List Int))) (fun i _ => by simp only [nmL, List.append_nil])
  obtain ⟨q', e', h', z1, z2, z3⟩ := E
  have F : Fin (mkX Tryz.prog) (sem (mkX Tryz.prog) 100000 99) 100000 Tryz.f14.results.toList (fun v _ => v = .b true) [.s Ck100] .n (valE (nmL ([a0, a1] ++ ([] : List Int))) sk100.e) (valH (nmL ([a0, a1] ++ ([] : List Int))) sk100.h) := by
    refine Fin.deep (a := []) (deep_seq Ck100 [] (by kernel_rfl)) ?_
    show FW1 _ [.s Ck101, .s Ck102] .n (valE (nmL ([a0, a1] ++ ([] : List Int))) sk100.e) (valH (nmL ([a0, a1] ++ ([] : List Int))) sk100.h)
    refine Fin.step (a := [.s Ck101]) (sem_fr 100000 99) (piece_ok (l := [a0, a1]) Bodies.xc Bodies.tabOkS sk10p1 rfl trivial []) ?_
    show FW1 _ [.s Ck102] .n (valE (nmL ([a0, a1] ++ ([] : List Int))) sk101.e) (valH (nmL ([a0, a1] ++ ([] : List Int))) sk101.h)
    refine Fin.deep (a := []) (deep_seq Ck102 [] (by kernel_rfl)) ?_
    show FW1 _ [.s Ck103, .s Ck104] .n (valE (nmL ([a0, a1] ++ ([] : List Int))) sk101.e) (valH (nmL ([a0, a1] ++ ([] : List Int))) sk101.h)
    refine Fin.step (a := [.s Ck103]) (sem_fr 100000 99) (piece_ok (l := [a0, a1]) Bodies.xc Bodies.tabOkS sk10p2 rfl trivial []) ?_
    show FW1 _ [.s Ck104] .n (valE (nmL ([a0, a1] ++ ([] : List Int))) sk102.e) (valH (nmL ([a0, a1] ++ ([] : List Int))) sk102.h)
    refine Fin.deep (a := []) (deep_seq Ck104 [] (by kernel_rfl)) ?_
    show FW1 _ [.s Ck105, .s Ck106] .n (valE (nmL ([a0, a1] ++ ([] : List Int))) sk102.e) (valH (nmL ([a0, a1] ++ ([] : List Int))) sk102.h)
    refine Fin.step (a := [.s Ck105]) (sem_fr 100000 99) (pieceA_ok lx Bodies.xc Bodies.tabOkS sk10p3 (l := [a0, a1]) (fits_cons l0 u0 (fits_cons l1 u1 fits_nil)) trivial (σ := nmL ([a0, a1] ++ ([] : List Int))) (fun i _ => by simp only [nmL, List.append_nil])) ?_
    show FW1 _ [.s Ck106] .n (valE (nmL ([a0, a1] ++ ([] : List Int))) sk103.e) (valH (nmL ([a0, a1] ++ ([] : List Int))) sk103.h)
    refine Fin.deep (a := []) (deep_seq Ck106 [] (by kernel_rfl)) ?_
    show FW1 _ [.s Ck107, .s Ck108] .n (valE (nmL ([a0, a1] ++ ([] : List Int))) sk103.e) (valH (nmL ([a0, a1] ++ ([] : List Int))) sk103.h)
    refine Fin.call3 sk10c4r sk10c4a sk10c4b sk10c4d sk10c4e sk10c4f sk10c4g sk10c4h sk10c4i sk10c4j (call_known (upRan a0 a1 []) (okU_ok sk10c4u _).1 (okU_ok sk10c4u _).2) (sk10c4v _) ?_
    show FW1 _ [.s Ck108] .n (valE (nmL ([a0, a1] ++ ([] : List Int))) sk104.e) (valH (nmL ([a0, a1] ++ ([] : List Int))) sk104.h)
    refine Fin.deep (a := []) (deep_seq Ck108 [] (by kernel_rfl)) ?_
    show FW1 _ [.s Ck109, .s Ck1010] .n (valE (nmL ([a0, a1] ++ ([] : List Int))) sk104.e) (valH (nmL ([a0, a1] ++ ([] : List Int))) sk104.h)
    refine Fin.step (a := [.s Ck109]) (sem_fr 100000 99) (piece_ok (l := [a0, a1]) Bodies.xc Bodies.tabOkS sk10p5 rfl trivial []) ?_
    show FW1 _ [.s Ck1010] .n (valE (nmL ([a0, a1] ++ ([] : List Int))) sk105.e) (valH (nmL ([a0, a1] ++ ([] : List Int))) sk105.h)
    exact Go.Am.Fin.last (sem_fr 100000 99) z1 z2 z3 (fun g _ => rfl)
  have := law_of_fin (n := 99) (args := [.i .i64 (.ofNat 1), .i .i64 (.ofNat 0), nameV .i64 0, nameV .i64 1]) (tb := []) (ρ := nmL ([a0, a1] ++ ([] : List Int))) Tryz.func14 (by rw [lx]; kernel_rfl) (by kernel_rfl) F
  have hv : vals (nmL ([a0, a1] ++ ([] : List Int))) [.i .i64 (.ofNat 1), .i .i64 (.ofNat 0), nameV .i64 0, nameV .i64 1] = [.i .i64 1, .i .i64 0, .i .i64 a0, .i .i64 a1] := by
    simp only [vals, val, val_nameV]
    rfl
  rw [hv] at this
  exact this
theorem k11ran (a0 a1 : Int) (l0 : (1024 : Int) ≤ a0) (u0 : a0 ≤ (39999 : Int)) (l1 : (1 : Int) ≤ a1) (u1 : a1 ≤ (65535 : Int)) : ∃ h', sem (mkX Tryz.prog) 100000 100 14 [.i .i64 1, .i .i64 1, .i .i64 a0, .i .i64 a1] ⟨16, lay []⟩ = some (.b true, h') := by
  have E : ∃ q' e' h', thenF (mkX Tryz.prog) (sem (mkX Tryz.prog) 100000 99) 100000 [.s Ck1110] sk115.q (valE (nmL ([a0, a1] ++ ([] : List Int))) sk115.e) (valH (nmL ([a0, a1] ++ ([] : List Int))) sk115.h) = some (q', e', h') ∧ (q' = .n ∨ q' = .r) ∧ resL (mkX Tryz.prog) e' h' Tryz.f14.results.toList = some [.b true] := by
    have hc : (a1 ≤ 39999) ∨ (40000 ≤ a1) := by omega
    rcases hc with hc | hc
    · exact endA_ok (l := [a0, a1]) lx Bodies.xc Bodies.tabOkS sk11pe0 (fits_cons l0 u0 (fits_cons (by omega) (by omega) fits_nil)) trivial (σ := nmL ([a0, a1] ++ ([] : List Int))) (fun i _ => by simp only [nmL, List.append_nil])
    · exact endA_ok (l := [a0, a1]) lx Bodies.xc Bodies.tabOkS sk11pe1 (fits_cons l0 u0 (fits_cons (by omega) (by omega) fits_nil)) trivial (σ := nmL ([a0, a1] ++ ([] : List Int))) (fun i _ => by simp only [nmL, List.append_nil])
  obtain ⟨q', e', h', z1, z2, z3⟩ := E
  have F : Fin (mkX Tryz.prog) (sem (mkX Tryz.prog) 100000 99) 100000 Tryz.f14.results.toList (fun v _ => v = .b true) [.s Ck110] .n (valE (nmL ([a0, a1] ++ ([] : List Int))) sk110.e) (valH (nmL ([a0, a1] ++ ([] : List Int))) sk110.h) := by
    refine Fin.deep (a := []) (deep_seq Ck110 [] (by kernel_rfl)) ?_
    show FW1 _ [.s Ck111, .s Ck112] .n (valE (nmL ([a0, a1] ++ ([] : List Int))) sk110.e) (valH (nmL ([a0, a1] ++ ([] : List Int))) sk110.h)
    refine Fin.step (a := [.s Ck111]) (sem_fr 100000 99) (piece_ok (l := [a0, a1]) Bodies.xc Bodies.tabOkS sk11p1 rfl trivial []) ?_
    show FW1 _ [.s Ck112] .n (valE (nmL ([a0, a1] ++ ([] : List Int))) sk111.e) (valH (nmL ([a0, a1] ++ ([] : List Int))) sk111.h)
    refine Fin.deep (a := []) (deep_seq Ck112 [] (by kernel_rfl)) ?_
    show FW1 _ [.s Ck113, .s Ck114] .n (valE (nmL ([a0, a1] ++ ([] : List Int))) sk111.e) (valH (nmL ([a0, a1] ++ ([] : List Int))) sk111.h)
    refine Fin.step (a := [.s Ck113]) (sem_fr 100000 99) (piece_ok (l := [a0, a1]) Bodies.xc Bodies.tabOkS sk11p2 rfl trivial []) ?_
    show FW1 _ [.s Ck114] .n (valE (nmL ([a0, a1] ++ ([] : List Int))) sk112.e) (valH (nmL ([a0, a1] ++ ([] : List Int))) sk112.h)
    refine Fin.deep (a := []) (deep_seq Ck114 [] (by kernel_rfl)) ?_
    show FW1 _ [.s Ck115, .s Ck116] .n (valE (nmL ([a0, a1] ++ ([] : List Int))) sk112.e) (valH (nmL ([a0, a1] ++ ([] : List Int))) sk112.h)
    refine Fin.step (a := [.s Ck115]) (sem_fr 100000 99) (pieceA_ok lx Bodies.xc Bodies.tabOkS sk11p3 (l := [a0, a1]) (fits_cons l0 u0 (fits_cons l1 u1 fits_nil)) trivial (σ := nmL ([a0, a1] ++ ([] : List Int))) (fun i _ => by simp only [nmL, List.append_nil])) ?_
    show FW1 _ [.s Ck116] .n (valE (nmL ([a0, a1] ++ ([] : List Int))) sk113.e) (valH (nmL ([a0, a1] ++ ([] : List Int))) sk113.h)
    refine Fin.deep (a := []) (deep_seq Ck116 [] (by kernel_rfl)) ?_
    show FW1 _ [.s Ck117, .s Ck118] .n (valE (nmL ([a0, a1] ++ ([] : List Int))) sk113.e) (valH (nmL ([a0, a1] ++ ([] : List Int))) sk113.h)
    refine Fin.call3 sk11c4r sk11c4a sk11c4b sk11c4d sk11c4e sk11c4f sk11c4g sk11c4h sk11c4i sk11c4j (call_known (upRan a0 a1 []) (okU_ok sk11c4u _).1 (okU_ok sk11c4u _).2) (sk11c4v _) ?_
    show FW1 _ [.s Ck118] .n (valE (nmL ([a0, a1] ++ ([] : List Int))) sk114.e) (valH (nmL ([a0, a1] ++ ([] : List Int))) sk114.h)
    refine Fin.deep (a := []) (deep_seq Ck118 [] (by kernel_rfl)) ?_
    show FW1 _ [.s Ck119, .s Ck1110] .n (valE (nmL ([a0, a1] ++ ([] : List Int))) sk114.e) (valH (nmL ([a0, a1] ++ ([] : List Int))) sk114.h)
    refine Fin.step (a := [.s Ck119]) (sem_fr 100000 99) (piece_ok (l := [a0, a1]) Bodies.xc Bodies.tabOkS sk11p5 rfl trivial []) ?_
    show FW1 _ [.s Ck1110] .n (valE (nmL ([a0, a1] ++ ([] : List Int))) sk115.e) (valH (nmL ([a0, a1] ++ ([] : List Int))) sk115.h)
    exact Go.Am.Fin.last (sem_fr 100000 99) z1 z2 z3 (fun g _ => rfl)
  have := law_of_fin (n := 99) (args := [.i .i64 (.ofNat 1), .i .i64 (.ofNat 1), nameV .i64 0, nameV .i64 1]) (tb := []) (ρ := nmL ([a0, a1] ++ ([] : List Int))) Tryz.func14 (by rw [lx]; kernel_rfl) (by kernel_rfl) F
  have hv : vals (nmL ([a0, a1] ++ ([] : List Int))) [.i .i64 (.ofNat 1), .i .i64 (.ofNat 1), nameV .i64 0, nameV .i64 1] = [.i .i64 1, .i .i64 1, .i .i64 a0, .i .i64 a1] := by
    simp only [vals, val, val_nameV]
    rfl
  rw [hv] at this
  exact this
theorem k12ran (a0 a1 : Int) (l0 : (1024 : Int) ≤ a0) (u0 : a0 ≤ (39999 : Int)) (l1 : (1 : Int) ≤ a1) (u1 : a1 ≤ (65535 : Int)) : ∃ h', sem (mkX Tryz.prog) 100000 100 14 [.i .i64 1, .i .i64 2, .i .i64 a0, .i .i64 a1] ⟨16, lay []⟩ = some (.b true, h') := by
  have E : ∃ q' e' h', thenF (mkX Tryz.prog) (sem (mkX Tryz.prog) 100000 99) 100000 [.s Ck1210] sk125.q (valE (nmL ([a0, a1] ++ ([] : List Int))) sk125.e) (valH (nmL ([a0, a1] ++ ([] : List Int))) sk125.h) = some (q', e', h') ∧ (q' = .n ∨ q' = .r) ∧ resL (mkX Tryz.prog) e' h' Tryz.f14.results.toList = some [.b true] := by
    have hc : (a1 ≤ 39999) ∨ (40000 ≤ a1) := by omega
    rcases hc with hc | hc
    · exact endA_ok (l := [a0, a1]) lx Bodies.xc Bodies.tabOkS sk12pe0 (fits_cons l0 u0 (fits_cons (by omega) (by omega) fits_nil)) trivial (σ := nmL ([a0, a1] ++ ([] : List Int))) (fun i _ => by simp only [nmL, List.append_nil])
    · exact endA_ok (l := [a0, a1]) lx Bodies.xc Bodies.tabOkS sk12pe1 (fits_cons l0 u0 (fits_cons (by omega) (by omega) fits_nil)) trivial (σ := nmL ([a0, a1] ++ ([] : List Int))) (fun i _ => by simp only [nmL, List.append_nil])
  obtain ⟨q', e', h', z1, z2, z3⟩ := E
  have F : Fin (mkX Tryz.prog) (sem (mkX Tryz.prog) 100000 99) 100000 Tryz.f14.results.toList (fun v _ => v = .b true) [.s Ck120] .n (valE (nmL ([a0, a1] ++ ([] : List Int))) sk120.e) (valH (nmL ([a0, a1] ++ ([] : List Int))) sk120.h) := by
    refine Fin.deep (a := []) (deep_seq Ck120 [] (by kernel_rfl)) ?_
    show FW1 _ [.s Ck121, .s Ck122] .n (valE (nmL ([a0, a1] ++ ([] : List Int))) sk120.e) (valH (nmL ([a0, a1] ++ ([] : List Int))) sk120.h)
    refine Fin.step (a := [.s Ck121]) (sem_fr 100000 99) (piece_ok (l := [a0, a1]) Bodies.xc Bodies.tabOkS sk12p1 rfl trivial []) ?_
    show FW1 _ [.s Ck122] .n (valE (nmL ([a0, a1] ++ ([] : List Int))) sk121.e) (valH (nmL ([a0, a1] ++ ([] : List Int))) sk121.h)
    refine Fin.deep (a := []) (deep_seq Ck122 [] (by kernel_rfl)) ?_
    show FW1 _ [.s Ck123, .s Ck124] .n (valE (nmL ([a0, a1] ++ ([] : List Int))) sk121.e) (valH (nmL ([a0, a1] ++ ([] : List Int))) sk121.h)
    refine Fin.step (a := [.s Ck123]) (sem_fr 100000 99) (piece_ok (l := [a0, a1]) Bodies.xc Bodies.tabOkS sk12p2 rfl trivial []) ?_
    show FW1 _ [.s Ck124] .n (valE (nmL ([a0, a1] ++ ([] : List Int))) sk122.e) (valH (nmL ([a0, a1] ++ ([] : List Int))) sk122.h)
    refine Fin.deep (a := []) (deep_seq Ck124 [] (by kernel_rfl)) ?_
    show FW1 _ [.s Ck125, .s Ck126] .n (valE (nmL ([a0, a1] ++ ([] : List Int))) sk122.e) (valH (nmL ([a0, a1] ++ ([] : List Int))) sk122.h)
    refine Fin.step (a := [.s Ck125]) (sem_fr 100000 99) (pieceA_ok lx Bodies.xc Bodies.tabOkS sk12p3 (l := [a0, a1]) (fits_cons l0 u0 (fits_cons l1 u1 fits_nil)) trivial (σ := nmL ([a0, a1] ++ ([] : List Int))) (fun i _ => by simp only [nmL, List.append_nil])) ?_
    show FW1 _ [.s Ck126] .n (valE (nmL ([a0, a1] ++ ([] : List Int))) sk123.e) (valH (nmL ([a0, a1] ++ ([] : List Int))) sk123.h)
    refine Fin.deep (a := []) (deep_seq Ck126 [] (by kernel_rfl)) ?_
    show FW1 _ [.s Ck127, .s Ck128] .n (valE (nmL ([a0, a1] ++ ([] : List Int))) sk123.e) (valH (nmL ([a0, a1] ++ ([] : List Int))) sk123.h)
    refine Fin.call3 sk12c4r sk12c4a sk12c4b sk12c4d sk12c4e sk12c4f sk12c4g sk12c4h sk12c4i sk12c4j (call_known (upRan a0 a1 []) (okU_ok sk12c4u _).1 (okU_ok sk12c4u _).2) (sk12c4v _) ?_
    show FW1 _ [.s Ck128] .n (valE (nmL ([a0, a1] ++ ([] : List Int))) sk124.e) (valH (nmL ([a0, a1] ++ ([] : List Int))) sk124.h)
    refine Fin.deep (a := []) (deep_seq Ck128 [] (by kernel_rfl)) ?_
    show FW1 _ [.s Ck129, .s Ck1210] .n (valE (nmL ([a0, a1] ++ ([] : List Int))) sk124.e) (valH (nmL ([a0, a1] ++ ([] : List Int))) sk124.h)
    refine Fin.step (a := [.s Ck129]) (sem_fr 100000 99) (piece_ok (l := [a0, a1]) Bodies.xc Bodies.tabOkS sk12p5 rfl trivial []) ?_
    show FW1 _ [.s Ck1210] .n (valE (nmL ([a0, a1] ++ ([] : List Int))) sk125.e) (valH (nmL ([a0, a1] ++ ([] : List Int))) sk125.h)
    exact Go.Am.Fin.last (sem_fr 100000 99) z1 z2 z3 (fun g _ => rfl)
  have := law_of_fin (n := 99) (args := [.i .i64 (.ofNat 1), .i .i64 (.ofNat 2), nameV .i64 0, nameV .i64 1]) (tb := []) (ρ := nmL ([a0, a1] ++ ([] : List Int))) Tryz.func14 (by rw [lx]; kernel_rfl) (by kernel_rfl) F
  have hv : vals (nmL ([a0, a1] ++ ([] : List Int))) [.i .i64 (.ofNat 1), .i .i64 (.ofNat 2), nameV .i64 0, nameV .i64 1] = [.i .i64 1, .i .i64 2, .i .i64 a0, .i .i64 a1] := by
    simp only [vals, val, val_nameV]
    rfl
  rw [hv] at this
  exact this
theorem k20ran (a0 a1 : Int) (l0 : (1024 : Int) ≤ a0) (u0 : a0 ≤ (39999 : Int)) (l1 : (1 : Int) ≤ a1) (u1 : a1 ≤ (65535 : Int)) : ∃ h', sem (mkX Tryz.prog) 100000 100 14 [.i .i64 2, .i .i64 0, .i .i64 a0, .i .i64 a1] ⟨16, lay []⟩ = some (.b true, h') := by
  have E : ∃ q' e' h', thenF (mkX Tryz.prog) (sem (mkX Tryz.prog) 100000 99) 100000 [.s Ck2010] sk205.q (valE (nmL ([a0, a1] ++ ([] : List Int))) sk205.e) (valH (nmL ([a0, a1] ++ ([] : List Int))) sk205.h) = some (q', e', h') ∧ (q' = .n ∨ q' = .r) ∧ resL (mkX Tryz.prog) e' h' Tryz.f14.results.toList = some [.b true] := by
    have hc : (a1 ≤ 39999) ∨ (40000 ≤ a1) := by omega
    rcases hc with hc | hc
    · exact endA_ok (l := [a0, a1]) lx Bodies.xc Bodies.tabOkS sk20pe0 (fits_cons l0 u0 (fits_cons (by omega) (by omega) fits_nil)) trivial (σ := nmL ([a0, a1] ++ ([] : List Int))) (fun i _ => by simp only [nmL, List.append_nil])
    · exact endA_ok (l := [a0, a1]) lx Bodies.xc Bodies.tabOkS sk20pe1 (fits_cons l0 u0 (fits_cons (by omega) (by omega) fits_nil)) trivial (σ := nmL ([a0, a1] ++ ([] : List Int))) (fun i _ => by simp only [nmL, List.append_nil])
  obtain ⟨q', e', h', z1, z2, z3⟩ := E
  have F : Fin (mkX Tryz.prog) (sem (mkX Tryz.prog) 100000 99) 100000 Tryz.f14.results.toList (fun v _ => v = .b true) [.s Ck200] .n (valE (nmL ([a0, a1] ++ ([] : List Int))) sk200.e) (valH (nmL ([a0, a1] ++ ([] : List Int))) sk200.h) := by
    refine Fin.deep (a := []) (deep_seq Ck200 [] (by kernel_rfl)) ?_
    show FW1 _ [.s Ck201, .s Ck202] .n (valE (nmL ([a0, a1] ++ ([] : List Int))) sk200.e) (valH (nmL ([a0, a1] ++ ([] : List Int))) sk200.h)
    refine Fin.step (a := [.s Ck201]) (sem_fr 100000 99) (piece_ok (l := [a0, a1]) Bodies.xc Bodies.tabOkS sk20p1 rfl trivial []) ?_
    show FW1 _ [.s Ck202] .n (valE (nmL ([a0, a1] ++ ([] : List Int))) sk201.e) (valH (nmL ([a0, a1] ++ ([] : List Int))) sk201.h)
    refine Fin.deep (a := []) (deep_seq Ck202 [] (by kernel_rfl)) ?_
    show FW1 _ [.s Ck203, .s Ck204] .n (valE (nmL ([a0, a1] ++ ([] : List Int))) sk201.e) (valH (nmL ([a0, a1] ++ ([] : List Int))) sk201.h)
    refine Fin.step (a := [.s Ck203]) (sem_fr 100000 99) (piece_ok (l := [a0, a1]) Bodies.xc Bodies.tabOkS sk20p2 rfl trivial []) ?_
    show FW1 _ [.s Ck204] .n (valE (nmL ([a0, a1] ++ ([] : List Int))) sk202.e) (valH (nmL ([a0, a1] ++ ([] : List Int))) sk202.h)
    refine Fin.deep (a := []) (deep_seq Ck204 [] (by kernel_rfl)) ?_
    show FW1 _ [.s Ck205, .s Ck206] .n (valE (nmL ([a0, a1] ++ ([] : List Int))) sk202.e) (valH (nmL ([a0, a1] ++ ([] : List Int))) sk202.h)
    refine Fin.step (a := [.s Ck205]) (sem_fr 100000 99) (pieceA_ok lx Bodies.xc Bodies.tabOkS sk20p3 (l := [a0, a1]) (fits_cons l0 u0 (fits_cons l1 u1 fits_nil)) trivial (σ := nmL ([a0, a1] ++ ([] : List Int))) (fun i _ => by simp only [nmL, List.append_nil])) ?_
    show FW1 _ [.s Ck206] .n (valE (nmL ([a0, a1] ++ ([] : List Int))) sk203.e) (valH (nmL ([a0, a1] ++ ([] : List Int))) sk203.h)
    refine Fin.deep (a := []) (deep_seq Ck206 [] (by kernel_rfl)) ?_
    show FW1 _ [.s Ck207, .s Ck208] .n (valE (nmL ([a0, a1] ++ ([] : List Int))) sk203.e) (valH (nmL ([a0, a1] ++ ([] : List Int))) sk203.h)
    refine Fin.call3 sk20c4r sk20c4a sk20c4b sk20c4d sk20c4e sk20c4f sk20c4g sk20c4h sk20c4i sk20c4j (call_known (upRan a0 a1 []) (okU_ok sk20c4u _).1 (okU_ok sk20c4u _).2) (sk20c4v _) ?_
    show FW1 _ [.s Ck208] .n (valE (nmL ([a0, a1] ++ ([] : List Int))) sk204.e) (valH (nmL ([a0, a1] ++ ([] : List Int))) sk204.h)
    refine Fin.deep (a := []) (deep_seq Ck208 [] (by kernel_rfl)) ?_
    show FW1 _ [.s Ck209, .s Ck2010] .n (valE (nmL ([a0, a1] ++ ([] : List Int))) sk204.e) (valH (nmL ([a0, a1] ++ ([] : List Int))) sk204.h)
    refine Fin.step (a := [.s Ck209]) (sem_fr 100000 99) (piece_ok (l := [a0, a1]) Bodies.xc Bodies.tabOkS sk20p5 rfl trivial []) ?_
    show FW1 _ [.s Ck2010] .n (valE (nmL ([a0, a1] ++ ([] : List Int))) sk205.e) (valH (nmL ([a0, a1] ++ ([] : List Int))) sk205.h)
    exact Go.Am.Fin.last (sem_fr 100000 99) z1 z2 z3 (fun g _ => rfl)
  have := law_of_fin (n := 99) (args := [.i .i64 (.ofNat 2), .i .i64 (.ofNat 0), nameV .i64 0, nameV .i64 1]) (tb := []) (ρ := nmL ([a0, a1] ++ ([] : List Int))) Tryz.func14 (by rw [lx]; kernel_rfl) (by kernel_rfl) F
  have hv : vals (nmL ([a0, a1] ++ ([] : List Int))) [.i .i64 (.ofNat 2), .i .i64 (.ofNat 0), nameV .i64 0, nameV .i64 1] = [.i .i64 2, .i .i64 0, .i .i64 a0, .i .i64 a1] := by
    simp only [vals, val, val_nameV]
    rfl
  rw [hv] at this
  exact this
theorem k21ran (a0 a1 : Int) (l0 : (1024 : Int) ≤ a0) (u0 : a0 ≤ (39999 : Int)) (l1 : (1 : Int) ≤ a1) (u1 : a1 ≤ (65535 : Int)) : ∃ h', sem (mkX Tryz.prog) 100000 100 14 [.i .i64 2, .i .i64 1, .i .i64 a0, .i .i64 a1] ⟨16, lay []⟩ = some (.b true, h') := by
  have E : ∃ q' e' h', thenF (mkX Tryz.prog) (sem (mkX Tryz.prog) 100000 99) 100000 [.s Ck2110] sk215.q (valE (nmL ([a0, a1] ++ ([] : List Int))) sk215.e) (valH (nmL ([a0, a1] ++ ([] : List Int))) sk215.h) = some (q', e', h') ∧ (q' = .n ∨ q' = .r) ∧ resL (mkX Tryz.prog) e' h' Tryz.f14.results.toList = some [.b true] := by
    have hc : (a1 ≤ 39999) ∨ (40000 ≤ a1) := by omega
    rcases hc with hc | hc
    · exact endA_ok (l := [a0, a1]) lx Bodies.xc Bodies.tabOkS sk21pe0 (fits_cons l0 u0 (fits_cons (by omega) (by omega) fits_nil)) trivial (σ := nmL ([a0, a1] ++ ([] : List Int))) (fun i _ => by simp only [nmL, List.append_nil])
    · exact endA_ok (l := [a0, a1]) lx Bodies.xc Bodies.tabOkS sk21pe1 (fits_cons l0 u0 (fits_cons (by omega) (by omega) fits_nil)) trivial (σ := nmL ([a0, a1] ++ ([] : List Int))) (fun i _ => by simp only [nmL, List.append_nil])
  obtain ⟨q', e', h', z1, z2, z3⟩ := E
  have F : Fin (mkX Tryz.prog) (sem (mkX Tryz.prog) 100000 99) 100000 Tryz.f14.results.toList (fun v _ => v = .b true) [.s Ck210] .n (valE (nmL ([a0, a1] ++ ([] : List Int))) sk210.e) (valH (nmL ([a0, a1] ++ ([] : List Int))) sk210.h) := by
    refine Fin.deep (a := []) (deep_seq Ck210 [] (by kernel_rfl)) ?_
    show FW1 _ [.s Ck211, .s Ck212] .n (valE (nmL ([a0, a1] ++ ([] : List Int))) sk210.e) (valH (nmL ([a0, a1] ++ ([] : List Int))) sk210.h)
    refine Fin.step (a := [.s Ck211]) (sem_fr 100000 99) (piece_ok (l := [a0, a1]) Bodies.xc Bodies.tabOkS sk21p1 rfl trivial []) ?_
    show FW1 _ [.s Ck212] .n (valE (nmL ([a0, a1] ++ ([] : List Int))) sk211.e) (valH (nmL ([a0, a1] ++ ([] : List Int))) sk211.h)
    refine Fin.deep (a := []) (deep_seq Ck212 [] (by kernel_rfl)) ?_
    show FW1 _ [.s Ck213, .s Ck214] .n (valE (nmL ([a0, a1] ++ ([] : List Int))) sk211.e) (valH (nmL ([a0, a1] ++ ([] : List Int))) sk211.h)
    refine Fin.step (a := [.s Ck213]) (sem_fr 100000 99) (piece_ok (l := [a0, a1]) Bodies.xc Bodies.tabOkS sk21p2 rfl trivial []) ?_
    show FW1 _ [.s Ck214] .n (valE (nmL ([a0, a1] ++ ([] : List Int))) sk212.e) (valH (nmL ([a0, a1] ++ ([] : List Int))) sk212.h)
    refine Fin.deep (a := []) (deep_seq Ck214 [] (by kernel_rfl)) ?_
    show FW1 _ [.s Ck215, .s Ck216] .n (valE (nmL ([a0, a1] ++ ([] : List Int))) sk212.e) (valH (nmL ([a0, a1] ++ ([] : List Int))) sk212.h)
    refine Fin.step (a := [.s Ck215]) (sem_fr 100000 99) (pieceA_ok lx Bodies.xc Bodies.tabOkS sk21p3 (l := [a0, a1]) (fits_cons l0 u0 (fits_cons l1 u1 fits_nil)) trivial (σ := nmL ([a0, a1] ++ ([] : List Int))) (fun i _ => by simp only [nmL, List.append_nil])) ?_
    show FW1 _ [.s Ck216] .n (valE (nmL ([a0, a1] ++ ([] : List Int))) sk213.e) (valH (nmL ([a0, a1] ++ ([] : List Int))) sk213.h)
    refine Fin.deep (a := []) (deep_seq Ck216 [] (by kernel_rfl)) ?_
    show FW1 _ [.s Ck217, .s Ck218] .n (valE (nmL ([a0, a1] ++ ([] : List Int))) sk213.e) (valH (nmL ([a0, a1] ++ ([] : List Int))) sk213.h)
    refine Fin.call3 sk21c4r sk21c4a sk21c4b sk21c4d sk21c4e sk21c4f sk21c4g sk21c4h sk21c4i sk21c4j (call_known (upRan a0 a1 []) (okU_ok sk21c4u _).1 (okU_ok sk21c4u _).2) (sk21c4v _) ?_
    show FW1 _ [.s Ck218] .n (valE (nmL ([a0, a1] ++ ([] : List Int))) sk214.e) (valH (nmL ([a0, a1] ++ ([] : List Int))) sk214.h)
    refine Fin.deep (a := []) (deep_seq Ck218 [] (by kernel_rfl)) ?_
    show FW1 _ [.s Ck219, .s Ck2110] .n (valE (nmL ([a0, a1] ++ ([] : List Int))) sk214.e) (valH (nmL ([a0, a1] ++ ([] : List Int))) sk214.h)
    refine Fin.step (a := [.s Ck219]) (sem_fr 100000 99) (piece_ok (l := [a0, a1]) Bodies.xc Bodies.tabOkS sk21p5 rfl trivial []) ?_
    show FW1 _ [.s Ck2110] .n (valE (nmL ([a0, a1] ++ ([] : List Int))) sk215.e) (valH (nmL ([a0, a1] ++ ([] : List Int))) sk215.h)
    exact Go.Am.Fin.last (sem_fr 100000 99) z1 z2 z3 (fun g _ => rfl)
  have := law_of_fin (n := 99) (args := [.i .i64 (.ofNat 2), .i .i64 (.ofNat 1), nameV .i64 0, nameV .i64 1]) (tb := []) (ρ := nmL ([a0, a1] ++ ([] : List Int))) Tryz.func14 (by rw [lx]; kernel_rfl) (by kernel_rfl) F
  have hv : vals (nmL ([a0, a1] ++ ([] : List Int))) [.i .i64 (.ofNat 2), .i .i64 (.ofNat 1), nameV .i64 0, nameV .i64 1] = [.i .i64 2, .i .i64 1, .i .i64 a0, .i .i64 a1] := by
    simp only [vals, val, val_nameV]
    rfl
  rw [hv] at this
  exact this
theorem k22ran (a0 a1 : Int) (l0 : (1024 : Int) ≤ a0) (u0 : a0 ≤ (39999 : Int)) (l1 : (1 : Int) ≤ a1) (u1 : a1 ≤ (65535 : Int)) : ∃ h', sem (mkX Tryz.prog) 100000 100 14 [.i .i64 2, .i .i64 2, .i .i64 a0, .i .i64 a1] ⟨16, lay []⟩ = some (.b true, h') := by
  have E : ∃ q' e' h', thenF (mkX Tryz.prog) (sem (mkX Tryz.prog) 100000 99) 100000 [.s Ck2210] sk225.q (valE (nmL ([a0, a1] ++ ([] : List Int))) sk225.e) (valH (nmL ([a0, a1] ++ ([] : List Int))) sk225.h) = some (q', e', h') ∧ (q' = .n ∨ q' = .r) ∧ resL (mkX Tryz.prog) e' h' Tryz.f14.results.toList = some [.b true] := by
    have hc : (a1 ≤ 39999) ∨ (40000 ≤ a1) := by omega
    rcases hc with hc | hc
    · exact endA_ok (l := [a0, a1]) lx Bodies.xc Bodies.tabOkS sk22pe0 (fits_cons l0 u0 (fits_cons (by omega) (by omega) fits_nil)) trivial (σ := nmL ([a0, a1] ++ ([] : List Int))) (fun i _ => by simp only [nmL, List.append_nil])
    · exact endA_ok (l := [a0, a1]) lx Bodies.xc Bodies.tabOkS sk22pe1 (fits_cons l0 u0 (fits_cons (by omega) (by omega) fits_nil)) trivial (σ := nmL ([a0, a1] ++ ([] : List Int))) (fun i _ => by simp only [nmL, List.append_nil])
  obtain ⟨q', e', h', z1, z2, z3⟩ := E
  have F : Fin (mkX Tryz.prog) (sem (mkX Tryz.prog) 100000 99) 100000 Tryz.f14.results.toList (fun v _ => v = .b true) [.s Ck220] .n (valE (nmL ([a0, a1] ++ ([] : List Int))) sk220.e) (valH (nmL ([a0, a1] ++ ([] : List Int))) sk220.h) := by
    refine Fin.deep (a := []) (deep_seq Ck220 [] (by kernel_rfl)) ?_
    show FW1 _ [.s Ck221, .s Ck222] .n (valE (nmL ([a0, a1] ++ ([] : List Int))) sk220.e) (valH (nmL ([a0, a1] ++ ([] : List Int))) sk220.h)
    refine Fin.step (a := [.s Ck221]) (sem_fr 100000 99) (piece_ok (l := [a0, a1]) Bodies.xc Bodies.tabOkS sk22p1 rfl trivial []) ?_
    show FW1 _ [.s Ck222] .n (valE (nmL ([a0, a1] ++ ([] : List Int))) sk221.e) (valH (nmL ([a0, a1] ++ ([] : List Int))) sk221.h)
    refine Fin.deep (a := []) (deep_seq Ck222 [] (by kernel_rfl)) ?_
    show FW1 _ [.s Ck223, .s Ck224] .n (valE (nmL ([a0, a1] ++ ([] : List Int))) sk221.e) (valH (nmL ([a0, a1] ++ ([] : List Int))) sk221.h)
    refine Fin.step (a := [.s Ck223]) (sem_fr 100000 99) (piece_ok (l := [a0, a1]) Bodies.xc Bodies.tabOkS sk22p2 rfl trivial []) ?_
    show FW1 _ [.s Ck224] .n (valE (nmL ([a0, a1] ++ ([] : List Int))) sk222.e) (valH (nmL ([a0, a1] ++ ([] : List Int))) sk222.h)
    refine Fin.deep (a := []) (deep_seq Ck224 [] (by kernel_rfl)) ?_
    show FW1 _ [.s Ck225, .s Ck226] .n (valE (nmL ([a0, a1] ++ ([] : List Int))) sk222.e) (valH (nmL ([a0, a1] ++ ([] : List Int))) sk222.h)
    refine Fin.step (a := [.s Ck225]) (sem_fr 100000 99) (pieceA_ok lx Bodies.xc Bodies.tabOkS sk22p3 (l := [a0, a1]) (fits_cons l0 u0 (fits_cons l1 u1 fits_nil)) trivial (σ := nmL ([a0, a1] ++ ([] : List Int))) (fun i _ => by simp only [nmL, List.append_nil])) ?_
    show FW1 _ [.s Ck226] .n (valE (nmL ([a0, a1] ++ ([] : List Int))) sk223.e) (valH (nmL ([a0, a1] ++ ([] : List Int))) sk223.h)
    refine Fin.deep (a := []) (deep_seq Ck226 [] (by kernel_rfl)) ?_
    show FW1 _ [.s Ck227, .s Ck228] .n (valE (nmL ([a0, a1] ++ ([] : List Int))) sk223.e) (valH (nmL ([a0, a1] ++ ([] : List Int))) sk223.h)
    refine Fin.call3 sk22c4r sk22c4a sk22c4b sk22c4d sk22c4e sk22c4f sk22c4g sk22c4h sk22c4i sk22c4j (call_known (upRan a0 a1 []) (okU_ok sk22c4u _).1 (okU_ok sk22c4u _).2) (sk22c4v _) ?_
    show FW1 _ [.s Ck228] .n (valE (nmL ([a0, a1] ++ ([] : List Int))) sk224.e) (valH (nmL ([a0, a1] ++ ([] : List Int))) sk224.h)
    refine Fin.deep (a := []) (deep_seq Ck228 [] (by kernel_rfl)) ?_
    show FW1 _ [.s Ck229, .s Ck2210] .n (valE (nmL ([a0, a1] ++ ([] : List Int))) sk224.e) (valH (nmL ([a0, a1] ++ ([] : List Int))) sk224.h)
    refine Fin.step (a := [.s Ck229]) (sem_fr 100000 99) (piece_ok (l := [a0, a1]) Bodies.xc Bodies.tabOkS sk22p5 rfl trivial []) ?_
    show FW1 _ [.s Ck2210] .n (valE (nmL ([a0, a1] ++ ([] : List Int))) sk225.e) (valH (nmL ([a0, a1] ++ ([] : List Int))) sk225.h)
    exact Go.Am.Fin.last (sem_fr 100000 99) z1 z2 z3 (fun g _ => rfl)
  have := law_of_fin (n := 99) (args := [.i .i64 (.ofNat 2), .i .i64 (.ofNat 2), nameV .i64 0, nameV .i64 1]) (tb := []) (ρ := nmL ([a0, a1] ++ ([] : List Int))) Tryz.func14 (by rw [lx]; kernel_rfl) (by kernel_rfl) F
  have hv : vals (nmL ([a0, a1] ++ ([] : List Int))) [.i .i64 (.ofNat 2), .i .i64 (.ofNat 2), nameV .i64 0, nameV .i64 1] = [.i .i64 2, .i .i64 2, .i .i64 a0, .i .i64 a1] := by
    simp only [vals, val, val_nameV]
    rfl
  rw [hv] at this
  exact this
theorem oran (a0 a1 a2 a3 : Int) (l0 : (-9223372036854775808 : Int) ≤ a0) (u0 : a0 ≤ (9223372036854775807 : Int)) (l1 : (-9223372036854775808 : Int) ≤ a1) (u1 : a1 ≤ (9223372036854775807 : Int)) (l2 : (-9223372036854775808 : Int) ≤ a2) (u2 : a2 ≤ (9223372036854775807 : Int)) (l3 : (-9223372036854775808 : Int) ≤ a3) (u3 : a3 ≤ (9223372036854775807 : Int)) (x0 : a0 < 0 ∨ 2 < a0 ∨ a1 < 0 ∨ 2 < a1 ∨ a2 < 1024 ∨ 39999 < a2 ∨ a3 < 1 ∨ 65535 < a3) : ∃ h', sem (mkX Tryz.prog) 100000 100 14 [.i .i64 a0, .i .i64 a1, .i .i64 a2, .i .i64 a3] ⟨16, lay []⟩ = some (.b true, h') := by
  obtain ⟨kk, q', e', h', z1, z2, z3⟩ := end_ok (l := [a0, a1, a2, a3]) Bodies.xc Bodies.tabOkS sope ofits (oall a0 a1 a2 a3 l0 u0 l1 u1 l2 u2 l3 u3 x0)
  have F : Fin (mkX Tryz.prog) (sem (mkX Tryz.prog) 100000 99) 100000 Tryz.f14.results.toList (fun v _ => v = .b true) [.s Co0] .n (valE (nmL ([a0, a1, a2, a3] ++ kk)) so0.e) (valH (nmL ([a0, a1, a2, a3] ++ kk)) so0.h) := by
    refine Fin.deep (a := []) (deep_seq Co0 [] (by kernel_rfl)) ?_
    show FW1 _ [.s Co1, .s Co2] .n (valE (nmL ([a0, a1, a2, a3] ++ kk)) so0.e) (valH (nmL ([a0, a1, a2, a3] ++ kk)) so0.h)
    refine Fin.step (a := [.s Co1]) (sem_fr 100000 99) (piece_ok (l := [a0, a1, a2, a3]) Bodies.xc Bodies.tabOkS sop1 rfl trivial kk) ?_
    show FW1 _ [.s Co2] .n (valE (nmL ([a0, a1, a2, a3] ++ kk)) so1.e) (valH (nmL ([a0, a1, a2, a3] ++ kk)) so1.h)
    refine Fin.deep (a := []) (deep_seq Co2 [] (by kernel_rfl)) ?_
    show FW1 _ [.s Co3, .s Co4] .n (valE (nmL ([a0, a1, a2, a3] ++ kk)) so1.e) (valH (nmL ([a0, a1, a2, a3] ++ kk)) so1.h)
    refine Fin.step (a := [.s Co3]) (sem_fr 100000 99) (piece_ok (l := [a0, a1, a2, a3]) Bodies.xc Bodies.tabOkS sop2 rfl trivial kk) ?_
    show FW1 _ [.s Co4] .n (valE (nmL ([a0, a1, a2, a3] ++ kk)) so2.e) (valH (nmL ([a0, a1, a2, a3] ++ kk)) so2.h)
    refine Fin.deep (a := []) (deep_seq Co4 [] (by kernel_rfl)) ?_
    show FW1 _ [.s Co5, .s Co6] .n (valE (nmL ([a0, a1, a2, a3] ++ kk)) so2.e) (valH (nmL ([a0, a1, a2, a3] ++ kk)) so2.h)
    refine Fin.deep (a := []) (deep_seq Co5 [.s Co6] (by kernel_rfl)) ?_
    show FW1 _ [.s Co7, .s Co8, .s Co6] .n (valE (nmL ([a0, a1, a2, a3] ++ kk)) so2.e) (valH (nmL ([a0, a1, a2, a3] ++ kk)) so2.h)
    exact Go.Am.Fin.last (sem_fr 100000 99) z1 z2 z3 (fun g _ => rfl)
  have := law_of_fin (n := 99) (args := [nameV .i64 0, nameV .i64 1, nameV .i64 2, nameV .i64 3]) (tb := []) (ρ := nmL ([a0, a1, a2, a3] ++ kk)) Tryz.func14 (by rw [lx]; kernel_rfl) (by kernel_rfl) F
  have hv : vals (nmL ([a0, a1, a2, a3] ++ kk)) [nameV .i64 0, nameV .i64 1, nameV .i64 2, nameV .i64 3] = [.i .i64 a0, .i .i64 a1, .i .i64 a2, .i .i64 a3] := by
    simp only [vals, val, val_nameV]
    rfl
  rw [hv] at this
  exact this
end Go.Proofs.YtcebbmappnbegaaGreatDoor.topHair
