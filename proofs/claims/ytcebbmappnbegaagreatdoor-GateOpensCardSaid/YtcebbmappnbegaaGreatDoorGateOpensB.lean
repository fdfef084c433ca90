/- GateOpens: its run, out of its pieces. -/
import Derived.Test.YtcebbmappnbegaaGreatDoorGateOpensR0
import Derived.Test.YtcebbmappnbegaaGreatDoorGateOpensR1
import Derived.Test.YtcebbmappnbegaaGreatDoorGateOpensR2
import Derived.Test.YtcebbmappnbegaaGreatDoorGateOpensR3
import Derived.Test.YtcebbmappnbegaaGreatDoorGateOpensR4
import Derived.Test.YtcebbmappnbegaaGreatDoorGateOpensR5
import Derived.Test.YtcebbmappnbegaaGreatDoorGateOpensR6
import Derived.Test.YtcebbmappnbegaaGreatDoorGateOpensR7
import Derived.Test.YtcebbmappnbegaaGreatDoorGateOpensR8
import Derived.Test.YtcebbmappnbegaaGreatDoorGateOpensR9
import Derived.Test.YtcebbmappnbegaaGreatDoorGateOpensR10
import Derived.Test.YtcebbmappnbegaaGreatDoorGateOpensR11
import Derived.Test.YtcebbmappnbegaaGreatDoorGateOpensR12
import Derived.Test.YtcebbmappnbegaaGreatDoorGateOpensR13
import Derived.Test.YtcebbmappnbegaaGreatDoorGateOpensR14
import Derived.Test.YtcebbmappnbegaaGreatDoorGateOpensR15
import Derived.Test.YtcebbmappnbegaaGreatDoorGateOpensR16
import Derived.Test.YtcebbmappnbegaaGreatDoorGateOpensR17
import Derived.Test.YtcebbmappnbegaaGreatDoorGateOpensR18
import Derived.Test.YtcebbmappnbegaaGreatDoorGateOpensR19
import Derived.Test.YtcebbmappnbegaaGreatDoorGateOpensR20
import Derived.Test.YtcebbmappnbegaaGreatDoorGateOpensR21
import Derived.Test.YtcebbmappnbegaaGreatDoorGateOpensR22
import Derived.Test.YtcebbmappnbegaaGreatDoorGateOpensR23
import Derived.Test.YtcebbmappnbegaaGreatDoorGateOpensR24
import Derived.Test.YtcebbmappnbegaaGreatDoorGateOpensR25
import Derived.Test.YtcebbmappnbegaaGreatDoorYtceLx
set_option linter.unusedSimpArgs false
set_option linter.unusedVariables false
set_option linter.unusedSectionVars false
set_option linter.unnecessarySimpa false
set_option maxRecDepth 100000
namespace Go.Proofs.YtcebbmappnbegaaGreatDoor.gateOpens
open Go.Am Go.Proofs.YtcebbmappnbegaaGreatDoor.Facts
theorem sep1 : runP Tryz.prog Bodies.tabO 99 [.s Ce1] se0 se1 2 Pt.done.orc = Pt.done.tr 2 := scp1
theorem sep2 : runP Tryz.prog Bodies.tabO 99 [.s Ce3] se1 se2 2 Pt.done.orc = Pt.done.tr 2 := scp2
theorem sep4 : runP Tryz.prog Bodies.tabO 99 [.s Ce7] se3 se4 2 Pt.done.orc = Pt.done.tr 2 := scp4
theorem sep5 : runP Tryz.prog Bodies.tabO 99 [.s Ce9] se4 se5 2 Pt.done.orc = Pt.done.tr 2 := scp5
theorem sep6 : runP Tryz.prog Bodies.tabO 99 [.s Ce11] se5 se6 2 Pt.done.orc = Pt.done.tr 2 := scp6
theorem sep7 : runP Tryz.prog Bodies.tabO 99 [.s Ce13] se6 se7 2 Pt.done.orc = Pt.done.tr 2 := scp7
theorem sep8 : runP Tryz.prog Bodies.tabO 99 [.s Ce15] se7 se8 2 Pt.done.orc = Pt.done.tr 2 := scp8
theorem sep9 : runP Tryz.prog Bodies.tabO 99 [.s Ce17] se8 se9 2 Pt.done.orc = Pt.done.tr 2 := scp9
theorem sep10 : runP Tryz.prog Bodies.tabO 99 [.s Ce19] se9 se10 2 Pt.done.orc = Pt.done.tr 2 := scp10
theorem sep11 : runP Tryz.prog Bodies.tabO 99 [.s Ce21] se10 se11 2 Pt.done.orc = Pt.done.tr 2 := scp11
theorem sfp1 : runP Tryz.prog Bodies.tabO 99 [.s Cf1] sf0 sf1 2 Pt.done.orc = Pt.done.tr 2 := sdp1
theorem sfp2 : runP Tryz.prog Bodies.tabO 99 [.s Cf3] sf1 sf2 2 Pt.done.orc = Pt.done.tr 2 := sdp2
theorem sfp4 : runP Tryz.prog Bodies.tabO 99 [.s Cf7] sf3 sf4 2 Pt.done.orc = Pt.done.tr 2 := sdp4
theorem sfp5 : runP Tryz.prog Bodies.tabO 99 [.s Cf9] sf4 sf5 2 Pt.done.orc = Pt.done.tr 2 := sdp5
theorem sfp6 : runP Tryz.prog Bodies.tabO 99 [.s Cf11] sf5 sf6 2 Pt.done.orc = Pt.done.tr 2 := sdp6
theorem sfp7 : runP Tryz.prog Bodies.tabO 99 [.s Cf13] sf6 sf7 2 Pt.done.orc = Pt.done.tr 2 := sdp7
theorem sfp8 : runP Tryz.prog Bodies.tabO 99 [.s Cf15] sf7 sf8 2 Pt.done.orc = Pt.done.tr 2 := sdp8
theorem sfp9 : runP Tryz.prog Bodies.tabO 99 [.s Cf17] sf8 sf9 2 Pt.done.orc = Pt.done.tr 2 := sdp9
theorem sfp10 : runP Tryz.prog Bodies.tabO 99 [.s Cf19] sf9 sf10 2 Pt.done.orc = Pt.done.tr 2 := sdp10
theorem sfp11 : runP Tryz.prog Bodies.tabO 99 [.s Cf23] sf10 sf11 2 Pt.done.orc = Pt.done.tr 2 := sdp11
theorem sfp12 : runP Tryz.prog Bodies.tabO 99 [.s Cf26] sf11 sf12 2 Pt.done.orc = Pt.done.tr 2 := sdp12
theorem sfp13 : runP Tryz.prog Bodies.tabO 99 [.s Cf27] sf12 sf13 2 Pt.done.orc = Pt.done.tr 2 := sdp13
theorem spp1 : runP Tryz.prog Bodies.tabO 99 [.s Cp1] sp0 sp1 2 Pt.done.orc = Pt.done.tr 2 := scp1
theorem spp2 : runP Tryz.prog Bodies.tabO 99 [.s Cp3] sp1 sp2 2 Pt.done.orc = Pt.done.tr 2 := scp2
theorem sqp1 : runP Tryz.prog Bodies.tabO 99 [.s Cq1] sq0 sq1 2 Pt.done.orc = Pt.done.tr 2 := sdp1
theorem sqp2 : runP Tryz.prog Bodies.tabO 99 [.s Cq3] sq1 sq2 2 Pt.done.orc = Pt.done.tr 2 := sdp2
theorem cran (a0 a1 : Int) (l0 : (-9223372036854775808 : Int) ≤ a0) (u0 : a0 ≤ (9223372036854775807 : Int)) (l1 : (0 : Int) ≤ a1) (u1 : a1 ≤ (52 : Int)) : ∃ h', sem (mkX Tryz.prog) 100000 100 6 [.i .i64 a0, .i .i64 a1, .b false] ⟨16, lay []⟩ = some (.b true, h') := by
  obtain ⟨kk, q', e', h', z1, z2, z3⟩ := end_ok (l := [a0, a1]) Bodies.xc Bodies.tabOkO scpe cfits (call a0 a1 l0 u0 l1 u1)
  have F : Fin (mkX Tryz.prog) (sem (mkX Tryz.prog) 100000 99) 100000 Tryz.f6.results.toList (fun v _ => v = .b true) [.s Cc0] .n (valE (nmL ([a0, a1] ++ kk)) sc0.e) (valH (nmL ([a0, a1] ++ kk)) sc0.h) := by
    refine Fin.deep (a := []) (deep_seq Cc0 [] (by kernel_rfl)) ?_
    show Fin (mkX Tryz.prog) (sem (mkX Tryz.prog) 100000 99) 100000 Tryz.f6.results.toList _ [.s Cc1, .s Cc2] .n (valE (nmL ([a0, a1] ++ kk)) sc0.e) (valH (nmL ([a0, a1] ++ kk)) sc0.h)
    refine Fin.step (a := [.s Cc1]) (sem_fr 100000 99) (piece_ok (l := [a0, a1]) Bodies.xc Bodies.tabOkO scp1 rfl trivial kk) ?_
    show Fin (mkX Tryz.prog) (sem (mkX Tryz.prog) 100000 99) 100000 Tryz.f6.results.toList _ [.s Cc2] .n (valE (nmL ([a0, a1] ++ kk)) sc1.e) (valH (nmL ([a0, a1] ++ kk)) sc1.h)
    refine Fin.deep (a := []) (deep_seq Cc2 [] (by kernel_rfl)) ?_
    show Fin (mkX Tryz.prog) (sem (mkX Tryz.prog) 100000 99) 100000 Tryz.f6.results.toList _ [.s Cc3, .s Cc4] .n (valE (nmL ([a0, a1] ++ kk)) sc1.e) (valH (nmL ([a0, a1] ++ kk)) sc1.h)
    refine Fin.step (a := [.s Cc3]) (sem_fr 100000 99) (piece_ok (l := [a0, a1]) Bodies.xc Bodies.tabOkO scp2 rfl trivial kk) ?_
    show Fin (mkX Tryz.prog) (sem (mkX Tryz.prog) 100000 99) 100000 Tryz.f6.results.toList _ [.s Cc4] .n (valE (nmL ([a0, a1] ++ kk)) sc2.e) (valH (nmL ([a0, a1] ++ kk)) sc2.h)
    refine Fin.deep (a := []) (deep_seq Cc4 [] (by kernel_rfl)) ?_
    show Fin (mkX Tryz.prog) (sem (mkX Tryz.prog) 100000 99) 100000 Tryz.f6.results.toList _ [.s Cc5, .s Cc6] .n (valE (nmL ([a0, a1] ++ kk)) sc2.e) (valH (nmL ([a0, a1] ++ kk)) sc2.h)
    refine Fin.step (a := [.s Cc5]) (sem_fr 100000 99) (piece_ok (l := [a0, a1]) Bodies.xc Bodies.tabOkO scp3 rfl (sch3 a0 a1 l0 u0 l1 u1) kk) ?_
    show Fin (mkX Tryz.prog) (sem (mkX Tryz.prog) 100000 99) 100000 Tryz.f6.results.toList _ [.s Cc6] .n (valE (nmL ([a0, a1] ++ kk)) sc3.e) (valH (nmL ([a0, a1] ++ kk)) sc3.h)
    refine Fin.deep (a := []) (deep_seq Cc6 [] (by kernel_rfl)) ?_
    show Fin (mkX Tryz.prog) (sem (mkX Tryz.prog) 100000 99) 100000 Tryz.f6.results.toList _ [.s Cc7, .s Cc8] .n (valE (nmL ([a0, a1] ++ kk)) sc3.e) (valH (nmL ([a0, a1] ++ kk)) sc3.h)
    refine Fin.step (a := [.s Cc7]) (sem_fr 100000 99) (piece_ok (l := [a0, a1]) Bodies.xc Bodies.tabOkO scp4 rfl trivial kk) ?_
    show Fin (mkX Tryz.prog) (sem (mkX Tryz.prog) 100000 99) 100000 Tryz.f6.results.toList _ [.s Cc8] .n (valE (nmL ([a0, a1] ++ kk)) sc4.e) (valH (nmL ([a0, a1] ++ kk)) sc4.h)
    refine Fin.deep (a := []) (deep_seq Cc8 [] (by kernel_rfl)) ?_
    show Fin (mkX Tryz.prog) (sem (mkX Tryz.prog) 100000 99) 100000 Tryz.f6.results.toList _ [.s Cc9, .s Cc10] .n (valE (nmL ([a0, a1] ++ kk)) sc4.e) (valH (nmL ([a0, a1] ++ kk)) sc4.h)
    refine Fin.step (a := [.s Cc9]) (sem_fr 100000 99) (piece_ok (l := [a0, a1]) Bodies.xc Bodies.tabOkO scp5 rfl trivial kk) ?_
    show Fin (mkX Tryz.prog) (sem (mkX Tryz.prog) 100000 99) 100000 Tryz.f6.results.toList _ [.s Cc10] .n (valE (nmL ([a0, a1] ++ kk)) sc5.e) (valH (nmL ([a0, a1] ++ kk)) sc5.h)
    refine Fin.deep (a := []) (deep_seq Cc10 [] (by kernel_rfl)) ?_
    show Fin (mkX Tryz.prog) (sem (mkX Tryz.prog) 100000 99) 100000 Tryz.f6.results.toList _ [.s Cc11, .s Cc12] .n (valE (nmL ([a0, a1] ++ kk)) sc5.e) (valH (nmL ([a0, a1] ++ kk)) sc5.h)
    refine Fin.step (a := [.s Cc11]) (sem_fr 100000 99) (piece_ok (l := [a0, a1]) Bodies.xc Bodies.tabOkO scp6 rfl trivial kk) ?_
    show Fin (mkX Tryz.prog) (sem (mkX Tryz.prog) 100000 99) 100000 Tryz.f6.results.toList _ [.s Cc12] .n (valE (nmL ([a0, a1] ++ kk)) sc6.e) (valH (nmL ([a0, a1] ++ kk)) sc6.h)
    refine Fin.deep (a := []) (deep_seq Cc12 [] (by kernel_rfl)) ?_
    show Fin (mkX Tryz.prog) (sem (mkX Tryz.prog) 100000 99) 100000 Tryz.f6.results.toList _ [.s Cc13, .s Cc14] .n (valE (nmL ([a0, a1] ++ kk)) sc6.e) (valH (nmL ([a0, a1] ++ kk)) sc6.h)
    refine Fin.step (a := [.s Cc13]) (sem_fr 100000 99) (piece_ok (l := [a0, a1]) Bodies.xc Bodies.tabOkO scp7 rfl trivial kk) ?_
    show Fin (mkX Tryz.prog) (sem (mkX Tryz.prog) 100000 99) 100000 Tryz.f6.results.toList _ [.s Cc14] .n (valE (nmL ([a0, a1] ++ kk)) sc7.e) (valH (nmL ([a0, a1] ++ kk)) sc7.h)
    refine Fin.deep (a := []) (deep_seq Cc14 [] (by kernel_rfl)) ?_
    show Fin (mkX Tryz.prog) (sem (mkX Tryz.prog) 100000 99) 100000 Tryz.f6.results.toList _ [.s Cc15, .s Cc16] .n (valE (nmL ([a0, a1] ++ kk)) sc7.e) (valH (nmL ([a0, a1] ++ kk)) sc7.h)
    refine Fin.step (a := [.s Cc15]) (sem_fr 100000 99) (piece_ok (l := [a0, a1]) Bodies.xc Bodies.tabOkO scp8 rfl trivial kk) ?_
    show Fin (mkX Tryz.prog) (sem (mkX Tryz.prog) 100000 99) 100000 Tryz.f6.results.toList _ [.s Cc16] .n (valE (nmL ([a0, a1] ++ kk)) sc8.e) (valH (nmL ([a0, a1] ++ kk)) sc8.h)
    refine Fin.deep (a := []) (deep_seq Cc16 [] (by kernel_rfl)) ?_
    show Fin (mkX Tryz.prog) (sem (mkX Tryz.prog) 100000 99) 100000 Tryz.f6.results.toList _ [.s Cc17, .s Cc18] .n (valE (nmL ([a0, a1] ++ kk)) sc8.e) (valH (nmL ([a0, a1] ++ kk)) sc8.h)
    refine Fin.step (a := [.s Cc17]) (sem_fr 100000 99) (piece_ok (l := [a0, a1]) Bodies.xc Bodies.tabOkO scp9 rfl trivial kk) ?_
    show Fin (mkX Tryz.prog) (sem (mkX Tryz.prog) 100000 99) 100000 Tryz.f6.results.toList _ [.s Cc18] .n (valE (nmL ([a0, a1] ++ kk)) sc9.e) (valH (nmL ([a0, a1] ++ kk)) sc9.h)
    refine Fin.deep (a := []) (deep_seq Cc18 [] (by kernel_rfl)) ?_
    show Fin (mkX Tryz.prog) (sem (mkX Tryz.prog) 100000 99) 100000 Tryz.f6.results.toList _ [.s Cc19, .s Cc20] .n (valE (nmL ([a0, a1] ++ kk)) sc9.e) (valH (nmL ([a0, a1] ++ kk)) sc9.h)
    refine Fin.step (a := [.s Cc19]) (sem_fr 100000 99) (piece_ok (l := [a0, a1]) Bodies.xc Bodies.tabOkO scp10 rfl trivial kk) ?_
    show Fin (mkX Tryz.prog) (sem (mkX Tryz.prog) 100000 99) 100000 Tryz.f6.results.toList _ [.s Cc20] .n (valE (nmL ([a0, a1] ++ kk)) sc10.e) (valH (nmL ([a0, a1] ++ kk)) sc10.h)
    refine Fin.deep (a := []) (deep_seq Cc20 [] (by kernel_rfl)) ?_
    show Fin (mkX Tryz.prog) (sem (mkX Tryz.prog) 100000 99) 100000 Tryz.f6.results.toList _ [.s Cc21, .s Cc22] .n (valE (nmL ([a0, a1] ++ kk)) sc10.e) (valH (nmL ([a0, a1] ++ kk)) sc10.h)
    refine Fin.step (a := [.s Cc21]) (sem_fr 100000 99) (piece_ok (l := [a0, a1]) Bodies.xc Bodies.tabOkO scp11 rfl trivial kk) ?_
    show Fin (mkX Tryz.prog) (sem (mkX Tryz.prog) 100000 99) 100000 Tryz.f6.results.toList _ [.s Cc22] .n (valE (nmL ([a0, a1] ++ kk)) sc11.e) (valH (nmL ([a0, a1] ++ kk)) sc11.h)
    refine Fin.deep (a := []) (deep_seq Cc22 [] (by kernel_rfl)) ?_
    show Fin (mkX Tryz.prog) (sem (mkX Tryz.prog) 100000 99) 100000 Tryz.f6.results.toList _ [.s Cc23, .s Cc24] .n (valE (nmL ([a0, a1] ++ kk)) sc11.e) (valH (nmL ([a0, a1] ++ kk)) sc11.h)
    exact Go.Am.Fin.last (sem_fr 100000 99) z1 z2 z3 (fun g _ => rfl)
  have := law_of_fin (n := 99) (args := [nameV .i64 0, nameV .i64 1, .b false]) (tb := []) (ρ := nmL ([a0, a1] ++ kk)) Tryz.func6 (by rw [lx]; kernel_rfl) (by kernel_rfl) F
  have hv : vals (nmL ([a0, a1] ++ kk)) [nameV .i64 0, nameV .i64 1, .b false] = [.i .i64 a0, .i .i64 a1, .b false] := by
    simp only [vals, val, val_nameV]
    rfl
  rw [hv] at this
  exact this
theorem dran (a0 a1 : Int) (l0 : (-9223372036854775808 : Int) ≤ a0) (u0 : a0 ≤ (9223372036854775807 : Int)) (l1 : (0 : Int) ≤ a1) (u1 : a1 ≤ (52 : Int)) : ∃ h', sem (mkX Tryz.prog) 100000 100 6 [.i .i64 a0, .i .i64 a1, .b true] ⟨16, lay []⟩ = some (.b true, h') := by
  obtain ⟨kk, q', e', h', z1, z2, z3⟩ := end_ok (l := [a0, a1]) Bodies.xc Bodies.tabOkO sdpe dfits (dall a0 a1 l0 u0 l1 u1)
  have F : Fin (mkX Tryz.prog) (sem (mkX Tryz.prog) 100000 99) 100000 Tryz.f6.results.toList (fun v _ => v = .b true) [.s Cd0] .n (valE (nmL ([a0, a1] ++ kk)) sd0.e) (valH (nmL ([a0, a1] ++ kk)) sd0.h) := by
    refine Fin.deep (a := []) (deep_seq Cd0 [] (by kernel_rfl)) ?_
    show Fin (mkX Tryz.prog) (sem (mkX Tryz.prog) 100000 99) 100000 Tryz.f6.results.toList _ [.s Cd1, .s Cd2] .n (valE (nmL ([a0, a1] ++ kk)) sd0.e) (valH (nmL ([a0, a1] ++ kk)) sd0.h)
    refine Fin.step (a := [.s Cd1]) (sem_fr 100000 99) (piece_ok (l := [a0, a1]) Bodies.xc Bodies.tabOkO sdp1 rfl trivial kk) ?_
    show Fin (mkX Tryz.prog) (sem (mkX Tryz.prog) 100000 99) 100000 Tryz.f6.results.toList _ [.s Cd2] .n (valE (nmL ([a0, a1] ++ kk)) sd1.e) (valH (nmL ([a0, a1] ++ kk)) sd1.h)
    refine Fin.deep (a := []) (deep_seq Cd2 [] (by kernel_rfl)) ?_
    show Fin (mkX Tryz.prog) (sem (mkX Tryz.prog) 100000 99) 100000 Tryz.f6.results.toList _ [.s Cd3, .s Cd4] .n (valE (nmL ([a0, a1] ++ kk)) sd1.e) (valH (nmL ([a0, a1] ++ kk)) sd1.h)
    refine Fin.step (a := [.s Cd3]) (sem_fr 100000 99) (piece_ok (l := [a0, a1]) Bodies.xc Bodies.tabOkO sdp2 rfl trivial kk) ?_
    show Fin (mkX Tryz.prog) (sem (mkX Tryz.prog) 100000 99) 100000 Tryz.f6.results.toList _ [.s Cd4] .n (valE (nmL ([a0, a1] ++ kk)) sd2.e) (valH (nmL ([a0, a1] ++ kk)) sd2.h)
    refine Fin.deep (a := []) (deep_seq Cd4 [] (by kernel_rfl)) ?_
    show Fin (mkX Tryz.prog) (sem (mkX Tryz.prog) 100000 99) 100000 Tryz.f6.results.toList _ [.s Cd5, .s Cd6] .n (valE (nmL ([a0, a1] ++ kk)) sd2.e) (valH (nmL ([a0, a1] ++ kk)) sd2.h)
    refine Fin.step (a := [.s Cd5]) (sem_fr 100000 99) (piece_ok (l := [a0, a1]) Bodies.xc Bodies.tabOkO sdp3 rfl (sdh3 a0 a1 l0 u0 l1 u1) kk) ?_
    show Fin (mkX Tryz.prog) (sem (mkX Tryz.prog) 100000 99) 100000 Tryz.f6.results.toList _ [.s Cd6] .n (valE (nmL ([a0, a1] ++ kk)) sd3.e) (valH (nmL ([a0, a1] ++ kk)) sd3.h)
    refine Fin.deep (a := []) (deep_seq Cd6 [] (by kernel_rfl)) ?_
    show Fin (mkX Tryz.prog) (sem (mkX Tryz.prog) 100000 99) 100000 Tryz.f6.results.toList _ [.s Cd7, .s Cd8] .n (valE (nmL ([a0, a1] ++ kk)) sd3.e) (valH (nmL ([a0, a1] ++ kk)) sd3.h)
    refine Fin.step (a := [.s Cd7]) (sem_fr 100000 99) (piece_ok (l := [a0, a1]) Bodies.xc Bodies.tabOkO sdp4 rfl trivial kk) ?_
    show Fin (mkX Tryz.prog) (sem (mkX Tryz.prog) 100000 99) 100000 Tryz.f6.results.toList _ [.s Cd8] .n (valE (nmL ([a0, a1] ++ kk)) sd4.e) (valH (nmL ([a0, a1] ++ kk)) sd4.h)
    refine Fin.deep (a := []) (deep_seq Cd8 [] (by kernel_rfl)) ?_
    show Fin (mkX Tryz.prog) (sem (mkX Tryz.prog) 100000 99) 100000 Tryz.f6.results.toList _ [.s Cd9, .s Cd10] .n (valE (nmL ([a0, a1] ++ kk)) sd4.e) (valH (nmL ([a0, a1] ++ kk)) sd4.h)
    refine Fin.step (a := [.s Cd9]) (sem_fr 100000 99) (piece_ok (l := [a0, a1]) Bodies.xc Bodies.tabOkO sdp5 rfl trivial kk) ?_
    show Fin (mkX Tryz.prog) (sem (mkX Tryz.prog) 100000 99) 100000 Tryz.f6.results.toList _ [.s Cd10] .n (valE (nmL ([a0, a1] ++ kk)) sd5.e) (valH (nmL ([a0, a1] ++ kk)) sd5.h)
    refine Fin.deep (a := []) (deep_seq Cd10 [] (by kernel_rfl)) ?_
    show Fin (mkX Tryz.prog) (sem (mkX Tryz.prog) 100000 99) 100000 Tryz.f6.results.toList _ [.s Cd11, .s Cd12] .n (valE (nmL ([a0, a1] ++ kk)) sd5.e) (valH (nmL ([a0, a1] ++ kk)) sd5.h)
    refine Fin.step (a := [.s Cd11]) (sem_fr 100000 99) (piece_ok (l := [a0, a1]) Bodies.xc Bodies.tabOkO sdp6 rfl trivial kk) ?_
    show Fin (mkX Tryz.prog) (sem (mkX Tryz.prog) 100000 99) 100000 Tryz.f6.results.toList _ [.s Cd12] .n (valE (nmL ([a0, a1] ++ kk)) sd6.e) (valH (nmL ([a0, a1] ++ kk)) sd6.h)
    refine Fin.deep (a := []) (deep_seq Cd12 [] (by kernel_rfl)) ?_
    show Fin (mkX Tryz.prog) (sem (mkX Tryz.prog) 100000 99) 100000 Tryz.f6.results.toList _ [.s Cd13, .s Cd14] .n (valE (nmL ([a0, a1] ++ kk)) sd6.e) (valH (nmL ([a0, a1] ++ kk)) sd6.h)
    refine Fin.step (a := [.s Cd13]) (sem_fr 100000 99) (piece_ok (l := [a0, a1]) Bodies.xc Bodies.tabOkO sdp7 rfl trivial kk) ?_
    show Fin (mkX Tryz.prog) (sem (mkX Tryz.prog) 100000 99) 100000 Tryz.f6.results.toList _ [.s Cd14] .n (valE (nmL ([a0, a1] ++ kk)) sd7.e) (valH (nmL ([a0, a1] ++ kk)) sd7.h)
    refine Fin.deep (a := []) (deep_seq Cd14 [] (by kernel_rfl)) ?_
    show Fin (mkX Tryz.prog) (sem (mkX Tryz.prog) 100000 99) 100000 Tryz.f6.results.toList _ [.s Cd15, .s Cd16] .n (valE (nmL ([a0, a1] ++ kk)) sd7.e) (valH (nmL ([a0, a1] ++ kk)) sd7.h)
    refine Fin.step (a := [.s Cd15]) (sem_fr 100000 99) (piece_ok (l := [a0, a1]) Bodies.xc Bodies.tabOkO sdp8 rfl trivial kk) ?_
    show Fin (mkX Tryz.prog) (sem (mkX Tryz.prog) 100000 99) 100000 Tryz.f6.results.toList _ [.s Cd16] .n (valE (nmL ([a0, a1] ++ kk)) sd8.e) (valH (nmL ([a0, a1] ++ kk)) sd8.h)
    refine Fin.deep (a := []) (deep_seq Cd16 [] (by kernel_rfl)) ?_
    show Fin (mkX Tryz.prog) (sem (mkX Tryz.prog) 100000 99) 100000 Tryz.f6.results.toList _ [.s Cd17, .s Cd18] .n (valE (nmL ([a0, a1] ++ kk)) sd8.e) (valH (nmL ([a0, a1] ++ kk)) sd8.h)
    refine Fin.step (a := [.s Cd17]) (sem_fr 100000 99) (piece_ok (l := [a0, a1]) Bodies.xc Bodies.tabOkO sdp9 rfl trivial kk) ?_
    show Fin (mkX Tryz.prog) (sem (mkX Tryz.prog) 100000 99) 100000 Tryz.f6.results.toList _ [.s Cd18] .n (valE (nmL ([a0, a1] ++ kk)) sd9.e) (valH (nmL ([a0, a1] ++ kk)) sd9.h)
    refine Fin.deep (a := []) (deep_seq Cd18 [] (by kernel_rfl)) ?_
    show Fin (mkX Tryz.prog) (sem (mkX Tryz.prog) 100000 99) 100000 Tryz.f6.results.toList _ [.s Cd19, .s Cd20] .n (valE (nmL ([a0, a1] ++ kk)) sd9.e) (valH (nmL ([a0, a1] ++ kk)) sd9.h)
    refine Fin.step (a := [.s Cd19]) (sem_fr 100000 99) (piece_ok (l := [a0, a1]) Bodies.xc Bodies.tabOkO sdp10 rfl trivial kk) ?_
    show Fin (mkX Tryz.prog) (sem (mkX Tryz.prog) 100000 99) 100000 Tryz.f6.results.toList _ [.s Cd20] .n (valE (nmL ([a0, a1] ++ kk)) sd10.e) (valH (nmL ([a0, a1] ++ kk)) sd10.h)
    refine Fin.deep (a := []) (deep_seq Cd20 [] (by kernel_rfl)) ?_
    show Fin (mkX Tryz.prog) (sem (mkX Tryz.prog) 100000 99) 100000 Tryz.f6.results.toList _ [.s Cd21, .s Cd22] .n (valE (nmL ([a0, a1] ++ kk)) sd10.e) (valH (nmL ([a0, a1] ++ kk)) sd10.h)
    refine Fin.deep (a := []) (deep_seq Cd21 [.s Cd22] (by kernel_rfl)) ?_
    show Fin (mkX Tryz.prog) (sem (mkX Tryz.prog) 100000 99) 100000 Tryz.f6.results.toList _ [.s Cd23, .s Cd24, .s Cd22] .n (valE (nmL ([a0, a1] ++ kk)) sd10.e) (valH (nmL ([a0, a1] ++ kk)) sd10.h)
    refine Fin.step (a := [.s Cd23]) (sem_fr 100000 99) (piece_ok (l := [a0, a1]) Bodies.xc Bodies.tabOkO sdp11 rfl trivial kk) ?_
    show Fin (mkX Tryz.prog) (sem (mkX Tryz.prog) 100000 99) 100000 Tryz.f6.results.toList _ [.s Cd24, .s Cd22] .n (valE (nmL ([a0, a1] ++ kk)) sd11.e) (valH (nmL ([a0, a1] ++ kk)) sd11.h)
    refine Fin.cond_t' (n := Cd24) (by kernel_rfl) (by exact rfl) ?_
    show Fin (mkX Tryz.prog) (sem (mkX Tryz.prog) 100000 99) 100000 Tryz.f6.results.toList _ [.s Cd25, .s Cd22] .n (valE (nmL ([a0, a1] ++ kk)) sd11.e) (valH (nmL ([a0, a1] ++ kk)) sd11.h)
    refine Fin.deep (a := []) (deep_seq Cd25 [.s Cd22] (by kernel_rfl)) ?_
    show Fin (mkX Tryz.prog) (sem (mkX Tryz.prog) 100000 99) 100000 Tryz.f6.results.toList _ [.s Cd26, .s Cd27, .s Cd22] .n (valE (nmL ([a0, a1] ++ kk)) sd11.e) (valH (nmL ([a0, a1] ++ kk)) sd11.h)
    refine Fin.step (a := [.s Cd26]) (sem_fr 100000 99) (piece_ok (l := [a0, a1]) Bodies.xc Bodies.tabOkO sdp12 rfl trivial kk) ?_
    show Fin (mkX Tryz.prog) (sem (mkX Tryz.prog) 100000 99) 100000 Tryz.f6.results.toList _ [.s Cd27, .s Cd22] .n (valE (nmL ([a0, a1] ++ kk)) sd12.e) (valH (nmL ([a0, a1] ++ kk)) sd12.h)
    refine Fin.step (a := [.s Cd27]) (sem_fr 100000 99) (piece_ok (l := [a0, a1]) Bodies.xc Bodies.tabOkO sdp13 rfl trivial kk) ?_
    show Fin (mkX Tryz.prog) (sem (mkX Tryz.prog) 100000 99) 100000 Tryz.f6.results.toList _ [.s Cd22] .n (valE (nmL ([a0, a1] ++ kk)) sd13.e) (valH (nmL ([a0, a1] ++ kk)) sd13.h)
    refine Fin.deep (a := []) (deep_seq Cd22 [] (by kernel_rfl)) ?_
    show Fin (mkX Tryz.prog) (sem (mkX Tryz.prog) 100000 99) 100000 Tryz.f6.results.toList _ [.s Cd28, .s Cd29] .n (valE (nmL ([a0, a1] ++ kk)) sd13.e) (valH (nmL ([a0, a1] ++ kk)) sd13.h)
    exact Go.Am.Fin.last (sem_fr 100000 99) z1 z2 z3 (fun g _ => rfl)
  have := law_of_fin (n := 99) (args := [nameV .i64 0, nameV .i64 1, .b true]) (tb := []) (ρ := nmL ([a0, a1] ++ kk)) Tryz.func6 (by rw [lx]; kernel_rfl) (by kernel_rfl) F
  have hv : vals (nmL ([a0, a1] ++ kk)) [nameV .i64 0, nameV .i64 1, .b true] = [.i .i64 a0, .i .i64 a1, .b true] := by
    simp only [vals, val, val_nameV]
    rfl
  rw [hv] at this
  exact this
theorem eran (a0 a1 : Int) (l0 : (-9223372036854775808 : Int) ≤ a0) (u0 : a0 ≤ (9223372036854775807 : Int)) (l1 : (54 : Int) ≤ a1) (u1 : a1 ≤ (65535 : Int)) : ∃ h', sem (mkX Tryz.prog) 100000 100 6 [.i .i64 a0, .i .i64 a1, .b false] ⟨16, lay []⟩ = some (.b true, h') := by
  obtain ⟨kk, q', e', h', z1, z2, z3⟩ := end_ok (l := [a0, a1]) Bodies.xc Bodies.tabOkO sepe efits (eall a0 a1 l0 u0 l1 u1)
  have F : Fin (mkX Tryz.prog) (sem (mkX Tryz.prog) 100000 99) 100000 Tryz.f6.results.toList (fun v _ => v = .b true) [.s Ce0] .n (valE (nmL ([a0, a1] ++ kk)) se0.e) (valH (nmL ([a0, a1] ++ kk)) se0.h) := by
    refine Fin.deep (a := []) (deep_seq Ce0 [] (by kernel_rfl)) ?_
    show Fin (mkX Tryz.prog) (sem (mkX Tryz.prog) 100000 99) 100000 Tryz.f6.results.toList _ [.s Ce1, .s Ce2] .n (valE (nmL ([a0, a1] ++ kk)) se0.e) (valH (nmL ([a0, a1] ++ kk)) se0.h)
    refine Fin.step (a := [.s Ce1]) (sem_fr 100000 99) (piece_ok (l := [a0, a1]) Bodies.xc Bodies.tabOkO sep1 rfl trivial kk) ?_
    show Fin (mkX Tryz.prog) (sem (mkX Tryz.prog) 100000 99) 100000 Tryz.f6.results.toList _ [.s Ce2] .n (valE (nmL ([a0, a1] ++ kk)) se1.e) (valH (nmL ([a0, a1] ++ kk)) se1.h)
    refine Fin.deep (a := []) (deep_seq Ce2 [] (by kernel_rfl)) ?_
    show Fin (mkX Tryz.prog) (sem (mkX Tryz.prog) 100000 99) 100000 Tryz.f6.results.toList _ [.s Ce3, .s Ce4] .n (valE (nmL ([a0, a1] ++ kk)) se1.e) (valH (nmL ([a0, a1] ++ kk)) se1.h)
    refine Fin.step (a := [.s Ce3]) (sem_fr 100000 99) (piece_ok (l := [a0, a1]) Bodies.xc Bodies.tabOkO sep2 rfl trivial kk) ?_
    show Fin (mkX Tryz.prog) (sem (mkX Tryz.prog) 100000 99) 100000 Tryz.f6.results.toList _ [.s Ce4] .n (valE (nmL ([a0, a1] ++ kk)) se2.e) (valH (nmL ([a0, a1] ++ kk)) se2.h)
    refine Fin.deep (a := []) (deep_seq Ce4 [] (by kernel_rfl)) ?_
    show Fin (mkX Tryz.prog) (sem (mkX Tryz.prog) 100000 99) 100000 Tryz.f6.results.toList _ [.s Ce5, .s Ce6] .n (valE (nmL ([a0, a1] ++ kk)) se2.e) (valH (nmL ([a0, a1] ++ kk)) se2.h)
    refine Fin.step (a := [.s Ce5]) (sem_fr 100000 99) (piece_ok (l := [a0, a1]) Bodies.xc Bodies.tabOkO sep3 rfl (seh3 a0 a1 l0 u0 l1 u1) kk) ?_
    show Fin (mkX Tryz.prog) (sem (mkX Tryz.prog) 100000 99) 100000 Tryz.f6.results.toList _ [.s Ce6] .n (valE (nmL ([a0, a1] ++ kk)) se3.e) (valH (nmL ([a0, a1] ++ kk)) se3.h)
    refine Fin.deep (a := []) (deep_seq Ce6 [] (by kernel_rfl)) ?_
    show Fin (mkX Tryz.prog) (sem (mkX Tryz.prog) 100000 99) 100000 Tryz.f6.results.toList _ [.s Ce7, .s Ce8] .n (valE (nmL ([a0, a1] ++ kk)) se3.e) (valH (nmL ([a0, a1] ++ kk)) se3.h)
    refine Fin.step (a := [.s Ce7]) (sem_fr 100000 99) (piece_ok (l := [a0, a1]) Bodies.xc Bodies.tabOkO sep4 rfl trivial kk) ?_
    show Fin (mkX Tryz.prog) (sem (mkX Tryz.prog) 100000 99) 100000 Tryz.f6.results.toList _ [.s Ce8] .n (valE (nmL ([a0, a1] ++ kk)) se4.e) (valH (nmL ([a0, a1] ++ kk)) se4.h)
    refine Fin.deep (a := []) (deep_seq Ce8 [] (by kernel_rfl)) ?_
    show Fin (mkX Tryz.prog) (sem (mkX Tryz.prog) 100000 99) 100000 Tryz.f6.results.toList _ [.s Ce9, .s Ce10] .n (valE (nmL ([a0, a1] ++ kk)) se4.e) (valH (nmL ([a0, a1] ++ kk)) se4.h)
    refine Fin.step (a := [.s Ce9]) (sem_fr 100000 99) (piece_ok (l := [a0, a1]) Bodies.xc Bodies.tabOkO sep5 rfl trivial kk) ?_
    show Fin (mkX Tryz.prog) (sem (mkX Tryz.prog) 100000 99) 100000 Tryz.f6.results.toList _ [.s Ce10] .n (valE (nmL ([a0, a1] ++ kk)) se5.e) (valH (nmL ([a0, a1] ++ kk)) se5.h)
    refine Fin.deep (a := []) (deep_seq Ce10 [] (by kernel_rfl)) ?_
    show Fin (mkX Tryz.prog) (sem (mkX Tryz.prog) 100000 99) 100000 Tryz.f6.results.toList _ [.s Ce11, .s Ce12] .n (valE (nmL ([a0, a1] ++ kk)) se5.e) (valH (nmL ([a0, a1] ++ kk)) se5.h)
    refine Fin.step (a := [.s Ce11]) (sem_fr 100000 99) (piece_ok (l := [a0, a1]) Bodies.xc Bodies.tabOkO sep6 rfl trivial kk) ?_
    show Fin (mkX Tryz.prog) (sem (mkX Tryz.prog) 100000 99) 100000 Tryz.f6.results.toList _ [.s Ce12] .n (valE (nmL ([a0, a1] ++ kk)) se6.e) (valH (nmL ([a0, a1] ++ kk)) se6.h)
    refine Fin.deep (a := []) (deep_seq Ce12 [] (by kernel_rfl)) ?_
    show Fin (mkX Tryz.prog) (sem (mkX Tryz.prog) 100000 99) 100000 Tryz.f6.results.toList _ [.s Ce13, .s Ce14] .n (valE (nmL ([a0, a1] ++ kk)) se6.e) (valH (nmL ([a0, a1] ++ kk)) se6.h)
    refine Fin.step (a := [.s Ce13]) (sem_fr 100000 99) (piece_ok (l := [a0, a1]) Bodies.xc Bodies.tabOkO sep7 rfl trivial kk) ?_
    show Fin (mkX Tryz.prog) (sem (mkX Tryz.prog) 100000 99) 100000 Tryz.f6.results.toList _ [.s Ce14] .n (valE (nmL ([a0, a1] ++ kk)) se7.e) (valH (nmL ([a0, a1] ++ kk)) se7.h)
    refine Fin.deep (a := []) (deep_seq Ce14 [] (by kernel_rfl)) ?_
    show Fin (mkX Tryz.prog) (sem (mkX Tryz.prog) 100000 99) 100000 Tryz.f6.results.toList _ [.s Ce15, .s Ce16] .n (valE (nmL ([a0, a1] ++ kk)) se7.e) (valH (nmL ([a0, a1] ++ kk)) se7.h)
    refine Fin.step (a := [.s Ce15]) (sem_fr 100000 99) (piece_ok (l := [a0, a1]) Bodies.xc Bodies.tabOkO sep8 rfl trivial kk) ?_
    show Fin (mkX Tryz.prog) (sem (mkX Tryz.prog) 100000 99) 100000 Tryz.f6.results.toList _ [.s Ce16] .n (valE (nmL ([a0, a1] ++ kk)) se8.e) (valH (nmL ([a0, a1] ++ kk)) se8.h)
    refine Fin.deep (a := []) (deep_seq Ce16 [] (by kernel_rfl)) ?_
    show Fin (mkX Tryz.prog) (sem (mkX Tryz.prog) 100000 99) 100000 Tryz.f6.results.toList _ [.s Ce17, .s Ce18] .n (valE (nmL ([a0, a1] ++ kk)) se8.e) (valH (nmL ([a0, a1] ++ kk)) se8.h)
    refine Fin.step (a := [.s Ce17]) (sem_fr 100000 99) (piece_ok (l := [a0, a1]) Bodies.xc Bodies.tabOkO sep9 rfl trivial kk) ?_
    show Fin (mkX Tryz.prog) (sem (mkX Tryz.prog) 100000 99) 100000 Tryz.f6.results.toList _ [.s Ce18] .n (valE (nmL ([a0, a1] ++ kk)) se9.e) (valH (nmL ([a0, a1] ++ kk)) se9.h)
    refine Fin.deep (a := []) (deep_seq Ce18 [] (by kernel_rfl)) ?_
    show Fin (mkX Tryz.prog) (sem (mkX Tryz.prog) 100000 99) 100000 Tryz.f6.results.toList _ [.s Ce19, .s Ce20] .n (valE (nmL ([a0, a1] ++ kk)) se9.e) (valH (nmL ([a0, a1] ++ kk)) se9.h)
    refine Fin.step (a := [.s Ce19]) (sem_fr 100000 99) (piece_ok (l := [a0, a1]) Bodies.xc Bodies.tabOkO sep10 rfl trivial kk) ?_
    show Fin (mkX Tryz.prog) (sem (mkX Tryz.prog) 100000 99) 100000 Tryz.f6.results.toList _ [.s Ce20] .n (valE (nmL ([a0, a1] ++ kk)) se10.e) (valH (nmL ([a0, a1] ++ kk)) se10.h)
    refine Fin.deep (a := []) (deep_seq Ce20 [] (by kernel_rfl)) ?_
    show Fin (mkX Tryz.prog) (sem (mkX Tryz.prog) 100000 99) 100000 Tryz.f6.results.toList _ [.s Ce21, .s Ce22] .n (valE (nmL ([a0, a1] ++ kk)) se10.e) (valH (nmL ([a0, a1] ++ kk)) se10.h)
    refine Fin.step (a := [.s Ce21]) (sem_fr 100000 99) (piece_ok (l := [a0, a1]) Bodies.xc Bodies.tabOkO sep11 rfl trivial kk) ?_
    show Fin (mkX Tryz.prog) (sem (mkX Tryz.prog) 100000 99) 100000 Tryz.f6.results.toList _ [.s Ce22] .n (valE (nmL ([a0, a1] ++ kk)) se11.e) (valH (nmL ([a0, a1] ++ kk)) se11.h)
    refine Fin.deep (a := []) (deep_seq Ce22 [] (by kernel_rfl)) ?_
    show Fin (mkX Tryz.prog) (sem (mkX Tryz.prog) 100000 99) 100000 Tryz.f6.results.toList _ [.s Ce23, .s Ce24] .n (valE (nmL ([a0, a1] ++ kk)) se11.e) (valH (nmL ([a0, a1] ++ kk)) se11.h)
    exact Go.Am.Fin.last (sem_fr 100000 99) z1 z2 z3 (fun g _ => rfl)
  have := law_of_fin (n := 99) (args := [nameV .i64 0, nameV .i64 1, .b false]) (tb := []) (ρ := nmL ([a0, a1] ++ kk)) Tryz.func6 (by rw [lx]; kernel_rfl) (by kernel_rfl) F
  have hv : vals (nmL ([a0, a1] ++ kk)) [nameV .i64 0, nameV .i64 1, .b false] = [.i .i64 a0, .i .i64 a1, .b false] := by
    simp only [vals, val, val_nameV]
    rfl
  rw [hv] at this
  exact this
theorem fran (a0 a1 : Int) (l0 : (-9223372036854775808 : Int) ≤ a0) (u0 : a0 ≤ (9223372036854775807 : Int)) (l1 : (54 : Int) ≤ a1) (u1 : a1 ≤ (65535 : Int)) : ∃ h', sem (mkX Tryz.prog) 100000 100 6 [.i .i64 a0, .i .i64 a1, .b true] ⟨16, lay []⟩ = some (.b true, h') := by
  obtain ⟨kk, q', e', h', z1, z2, z3⟩ := end_ok (l := [a0, a1]) Bodies.xc Bodies.tabOkO sfpe ffits (fall a0 a1 l0 u0 l1 u1)
  have F : Fin (mkX Tryz.prog) (sem (mkX Tryz.prog) 100000 99) 100000 Tryz.f6.results.toList (fun v _ => v = .b true) [.s Cf0] .n (valE (nmL ([a0, a1] ++ kk)) sf0.e) (valH (nmL ([a0, a1] ++ kk)) sf0.h) := by
    refine Fin.deep (a := []) (deep_seq Cf0 [] (by kernel_rfl)) ?_
    show Fin (mkX Tryz.prog) (sem (mkX Tryz.prog) 100000 99) 100000 Tryz.f6.results.toList _ [.s Cf1, .s Cf2] .n (valE (nmL ([a0, a1] ++ kk)) sf0.e) (valH (nmL ([a0, a1] ++ kk)) sf0.h)
    refine Fin.step (a := [.s Cf1]) (sem_fr 100000 99) (piece_ok (l := [a0, a1]) Bodies.xc Bodies.tabOkO sfp1 rfl trivial kk) ?_
    show Fin (mkX Tryz.prog) (sem (mkX Tryz.prog) 100000 99) 100000 Tryz.f6.results.toList _ [.s Cf2] .n (valE (nmL ([a0, a1] ++ kk)) sf1.e) (valH (nmL ([a0, a1] ++ kk)) sf1.h)
    refine Fin.deep (a := []) (deep_seq Cf2 [] (by kernel_rfl)) ?_
    show Fin (mkX Tryz.prog) (sem (mkX Tryz.prog) 100000 99) 100000 Tryz.f6.results.toList _ [.s Cf3, .s Cf4] .n (valE (nmL ([a0, a1] ++ kk)) sf1.e) (valH (nmL ([a0, a1] ++ kk)) sf1.h)
    refine Fin.step (a := [.s Cf3]) (sem_fr 100000 99) (piece_ok (l := [a0, a1]) Bodies.xc Bodies.tabOkO sfp2 rfl trivial kk) ?_
    show Fin (mkX Tryz.prog) (sem (mkX Tryz.prog) 100000 99) 100000 Tryz.f6.results.toList _ [.s Cf4] .n (valE (nmL ([a0, a1] ++ kk)) sf2.e) (valH (nmL ([a0, a1] ++ kk)) sf2.h)
    refine Fin.deep (a := []) (deep_seq Cf4 [] (by kernel_rfl)) ?_
    show Fin (mkX Tryz.prog) (sem (mkX Tryz.prog) 100000 99) 100000 Tryz.f6.results.toList _ [.s Cf5, .s Cf6] .n (valE (nmL ([a0, a1] ++ kk)) sf2.e) (valH (nmL ([a0, a1] ++ kk)) sf2.h)
    refine Fin.step (a := [.s Cf5]) (sem_fr 100000 99) (piece_ok (l := [a0, a1]) Bodies.xc Bodies.tabOkO sfp3 rfl (sfh3 a0 a1 l0 u0 l1 u1) kk) ?_
    show Fin (mkX Tryz.prog) (sem (mkX Tryz.prog) 100000 99) 100000 Tryz.f6.results.toList _ [.s Cf6] .n (valE (nmL ([a0, a1] ++ kk)) sf3.e) (valH (nmL ([a0, a1] ++ kk)) sf3.h)
    refine Fin.deep (a := []) (deep_seq Cf6 [] (by kernel_rfl)) ?_
    show Fin (mkX Tryz.prog) (sem (mkX Tryz.prog) 100000 99) 100000 Tryz.f6.results.toList _ [.s Cf7, .s Cf8] .n (valE (nmL ([a0, a1] ++ kk)) sf3.e) (valH (nmL ([a0, a1] ++ kk)) sf3.h)
    refine Fin.step (a := [.s Cf7]) (sem_fr 100000 99) (piece_ok (l := [a0, a1]) Bodies.xc Bodies.tabOkO sfp4 rfl trivial kk) ?_
    show Fin (mkX Tryz.prog) (sem (mkX Tryz.prog) 100000 99) 100000 Tryz.f6.results.toList _ [.s Cf8] .n (valE (nmL ([a0, a1] ++ kk)) sf4.e) (valH (nmL ([a0, a1] ++ kk)) sf4.h)
    refine Fin.deep (a := []) (deep_seq Cf8 [] (by kernel_rfl)) ?_
    show Fin (mkX Tryz.prog) (sem (mkX Tryz.prog) 100000 99) 100000 Tryz.f6.results.toList _ [.s Cf9, .s Cf10] .n (valE (nmL ([a0, a1] ++ kk)) sf4.e) (valH (nmL ([a0, a1] ++ kk)) sf4.h)
    refine Fin.step (a := [.s Cf9]) (sem_fr 100000 99) (piece_ok (l := [a0, a1]) Bodies.xc Bodies.tabOkO sfp5 rfl trivial kk) ?_
    show Fin (mkX Tryz.prog) (sem (mkX Tryz.prog) 100000 99) 100000 Tryz.f6.results.toList _ [.s Cf10] .n (valE (nmL ([a0, a1] ++ kk)) sf5.e) (valH (nmL ([a0, a1] ++ kk)) sf5.h)
    refine Fin.deep (a := []) (deep_seq Cf10 [] (by kernel_rfl)) ?_
    show Fin (mkX Tryz.prog) (sem (mkX Tryz.prog) 100000 99) 100000 Tryz.f6.results.toList _ [.s Cf11, .s Cf12] .n (valE (nmL ([a0, a1] ++ kk)) sf5.e) (valH (nmL ([a0, a1] ++ kk)) sf5.h)
    refine Fin.step (a := [.s Cf11]) (sem_fr 100000 99) (piece_ok (l := [a0, a1]) Bodies.xc Bodies.tabOkO sfp6 rfl trivial kk) ?_
    show Fin (mkX Tryz.prog) (sem (mkX Tryz.prog) 100000 99) 100000 Tryz.f6.results.toList _ [.s Cf12] .n (valE (nmL ([a0, a1] ++ kk)) sf6.e) (valH (nmL ([a0, a1] ++ kk)) sf6.h)
    refine Fin.deep (a := []) (deep_seq Cf12 [] (by kernel_rfl)) ?_
    show Fin (mkX Tryz.prog) (sem (mkX Tryz.prog) 100000 99) 100000 Tryz.f6.results.toList _ [.s Cf13, .s Cf14] .n (valE (nmL ([a0, a1] ++ kk)) sf6.e) (valH (nmL ([a0, a1] ++ kk)) sf6.h)
    refine Fin.step (a := [.s Cf13]) (sem_fr 100000 99) (piece_ok (l := [a0, a1]) Bodies.xc Bodies.tabOkO sfp7 rfl trivial kk) ?_
    show Fin (mkX Tryz.prog) (sem (mkX Tryz.prog) 100000 99) 100000 Tryz.f6.results.toList _ [.s Cf14] .n (valE (nmL ([a0, a1] ++ kk)) sf7.e) (valH (nmL ([a0, a1] ++ kk)) sf7.h)
    refine Fin.deep (a := []) (deep_seq Cf14 [] (by kernel_rfl)) ?_
    show Fin (mkX Tryz.prog) (sem (mkX Tryz.prog) 100000 99) 100000 Tryz.f6.results.toList _ [.s Cf15, .s Cf16] .n (valE (nmL ([a0, a1] ++ kk)) sf7.e) (valH (nmL ([a0, a1] ++ kk)) sf7.h)
    refine Fin.step (a := [.s Cf15]) (sem_fr 100000 99) (piece_ok (l := [a0, a1]) Bodies.xc Bodies.tabOkO sfp8 rfl trivial kk) ?_
    show Fin (mkX Tryz.prog) (sem (mkX Tryz.prog) 100000 99) 100000 Tryz.f6.results.toList _ [.s Cf16] .n (valE (nmL ([a0, a1] ++ kk)) sf8.e) (valH (nmL ([a0, a1] ++ kk)) sf8.h)
    refine Fin.deep (a := []) (deep_seq Cf16 [] (by kernel_rfl)) ?_
    show Fin (mkX Tryz.prog) (sem (mkX Tryz.prog) 100000 99) 100000 Tryz.f6.results.toList _ [.s Cf17, .s Cf18] .n (valE (nmL ([a0, a1] ++ kk)) sf8.e) (valH (nmL ([a0, a1] ++ kk)) sf8.h)
    refine Fin.step (a := [.s Cf17]) (sem_fr 100000 99) (piece_ok (l := [a0, a1]) Bodies.xc Bodies.tabOkO sfp9 rfl trivial kk) ?_
    show Fin (mkX Tryz.prog) (sem (mkX Tryz.prog) 100000 99) 100000 Tryz.f6.results.toList _ [.s Cf18] .n (valE (nmL ([a0, a1] ++ kk)) sf9.e) (valH (nmL ([a0, a1] ++ kk)) sf9.h)
    refine Fin.deep (a := []) (deep_seq Cf18 [] (by kernel_rfl)) ?_
    show Fin (mkX Tryz.prog) (sem (mkX Tryz.prog) 100000 99) 100000 Tryz.f6.results.toList _ [.s Cf19, .s Cf20] .n (valE (nmL ([a0, a1] ++ kk)) sf9.e) (valH (nmL ([a0, a1] ++ kk)) sf9.h)
    refine Fin.step (a := [.s Cf19]) (sem_fr 100000 99) (piece_ok (l := [a0, a1]) Bodies.xc Bodies.tabOkO sfp10 rfl trivial kk) ?_
    show Fin (mkX Tryz.prog) (sem (mkX Tryz.prog) 100000 99) 100000 Tryz.f6.results.toList _ [.s Cf20] .n (valE (nmL ([a0, a1] ++ kk)) sf10.e) (valH (nmL ([a0, a1] ++ kk)) sf10.h)
    refine Fin.deep (a := []) (deep_seq Cf20 [] (by kernel_rfl)) ?_
    show Fin (mkX Tryz.prog) (sem (mkX Tryz.prog) 100000 99) 100000 Tryz.f6.results.toList _ [.s Cf21, .s Cf22] .n (valE (nmL ([a0, a1] ++ kk)) sf10.e) (valH (nmL ([a0, a1] ++ kk)) sf10.h)
    refine Fin.deep (a := []) (deep_seq Cf21 [.s Cf22] (by kernel_rfl)) ?_
    show Fin (mkX Tryz.prog) (sem (mkX Tryz.prog) 100000 99) 100000 Tryz.f6.results.toList _ [.s Cf23, .s Cf24, .s Cf22] .n (valE (nmL ([a0, a1] ++ kk)) sf10.e) (valH (nmL ([a0, a1] ++ kk)) sf10.h)
    refine Fin.step (a := [.s Cf23]) (sem_fr 100000 99) (piece_ok (l := [a0, a1]) Bodies.xc Bodies.tabOkO sfp11 rfl trivial kk) ?_
    show Fin (mkX Tryz.prog) (sem (mkX Tryz.prog) 100000 99) 100000 Tryz.f6.results.toList _ [.s Cf24, .s Cf22] .n (valE (nmL ([a0, a1] ++ kk)) sf11.e) (valH (nmL ([a0, a1] ++ kk)) sf11.h)
    refine Fin.cond_t' (n := Cf24) (by kernel_rfl) (by exact rfl) ?_
    show Fin (mkX Tryz.prog) (sem (mkX Tryz.prog) 100000 99) 100000 Tryz.f6.results.toList _ [.s Cf25, .s Cf22] .n (valE (nmL ([a0, a1] ++ kk)) sf11.e) (valH (nmL ([a0, a1] ++ kk)) sf11.h)
    refine Fin.deep (a := []) (deep_seq Cf25 [.s Cf22] (by kernel_rfl)) ?_
    show Fin (mkX Tryz.prog) (sem (mkX Tryz.prog) 100000 99) 100000 Tryz.f6.results.toList _ [.s Cf26, .s Cf27, .s Cf22] .n (valE (nmL ([a0, a1] ++ kk)) sf11.e) (valH (nmL ([a0, a1] ++ kk)) sf11.h)
    refine Fin.step (a := [.s Cf26]) (sem_fr 100000 99) (piece_ok (l := [a0, a1]) Bodies.xc Bodies.tabOkO sfp12 rfl trivial kk) ?_
    show Fin (mkX Tryz.prog) (sem (mkX Tryz.prog) 100000 99) 100000 Tryz.f6.results.toList _ [.s Cf27, .s Cf22] .n (valE (nmL ([a0, a1] ++ kk)) sf12.e) (valH (nmL ([a0, a1] ++ kk)) sf12.h)
    refine Fin.step (a := [.s Cf27]) (sem_fr 100000 99) (piece_ok (l := [a0, a1]) Bodies.xc Bodies.tabOkO sfp13 rfl trivial kk) ?_
    show Fin (mkX Tryz.prog) (sem (mkX Tryz.prog) 100000 99) 100000 Tryz.f6.results.toList _ [.s Cf22] .n (valE (nmL ([a0, a1] ++ kk)) sf13.e) (valH (nmL ([a0, a1] ++ kk)) sf13.h)
    refine Fin.deep (a := []) (deep_seq Cf22 [] (by kernel_rfl)) ?_
    show Fin (mkX Tryz.prog) (sem (mkX Tryz.prog) 100000 99) 100000 Tryz.f6.results.toList _ [.s Cf28, .s Cf29] .n (valE (nmL ([a0, a1] ++ kk)) sf13.e) (valH (nmL ([a0, a1] ++ kk)) sf13.h)
    exact Go.Am.Fin.last (sem_fr 100000 99) z1 z2 z3 (fun g _ => rfl)
  have := law_of_fin (n := 99) (args := [nameV .i64 0, nameV .i64 1, .b true]) (tb := []) (ρ := nmL ([a0, a1] ++ kk)) Tryz.func6 (by rw [lx]; kernel_rfl) (by kernel_rfl) F
  have hv : vals (nmL ([a0, a1] ++ kk)) [nameV .i64 0, nameV .i64 1, .b true] = [.i .i64 a0, .i .i64 a1, .b true] := by
    simp only [vals, val, val_nameV]
    rfl
  rw [hv] at this
  exact this
theorem pran (a0 a1 : Int) (l0 : (-9223372036854775808 : Int) ≤ a0) (u0 : a0 ≤ (9223372036854775807 : Int)) (l1 : (-9223372036854775808 : Int) ≤ a1) (u1 : a1 ≤ (9223372036854775807 : Int)) (x0 : a1 < 0 ∨ 65535 < a1 ∨ a1 = 53) : ∃ h', sem (mkX Tryz.prog) 100000 100 6 [.i .i64 a0, .i .i64 a1, .b false] ⟨16, lay []⟩ = some (.b true, h') := by
  obtain ⟨kk, q', e', h', z1, z2, z3⟩ := end_ok (l := [a0, a1]) Bodies.xc Bodies.tabOkO sppe pfits (pall a0 a1 l0 u0 l1 u1 x0)
  have F : Fin (mkX Tryz.prog) (sem (mkX Tryz.prog) 100000 99) 100000 Tryz.f6.results.toList (fun v _ => v = .b true) [.s Cp0] .n (valE (nmL ([a0, a1] ++ kk)) sp0.e) (valH (nmL ([a0, a1] ++ kk)) sp0.h) := by
    refine Fin.deep (a := []) (deep_seq Cp0 [] (by kernel_rfl)) ?_
    show Fin (mkX Tryz.prog) (sem (mkX Tryz.prog) 100000 99) 100000 Tryz.f6.results.toList _ [.s Cp1, .s Cp2] .n (valE (nmL ([a0, a1] ++ kk)) sp0.e) (valH (nmL ([a0, a1] ++ kk)) sp0.h)
    refine Fin.step (a := [.s Cp1]) (sem_fr 100000 99) (piece_ok (l := [a0, a1]) Bodies.xc Bodies.tabOkO spp1 rfl trivial kk) ?_
    show Fin (mkX Tryz.prog) (sem (mkX Tryz.prog) 100000 99) 100000 Tryz.f6.results.toList _ [.s Cp2] .n (valE (nmL ([a0, a1] ++ kk)) sp1.e) (valH (nmL ([a0, a1] ++ kk)) sp1.h)
    refine Fin.deep (a := []) (deep_seq Cp2 [] (by kernel_rfl)) ?_
    show Fin (mkX Tryz.prog) (sem (mkX Tryz.prog) 100000 99) 100000 Tryz.f6.results.toList _ [.s Cp3, .s Cp4] .n (valE (nmL ([a0, a1] ++ kk)) sp1.e) (valH (nmL ([a0, a1] ++ kk)) sp1.h)
    refine Fin.step (a := [.s Cp3]) (sem_fr 100000 99) (piece_ok (l := [a0, a1]) Bodies.xc Bodies.tabOkO spp2 rfl trivial kk) ?_
    show Fin (mkX Tryz.prog) (sem (mkX Tryz.prog) 100000 99) 100000 Tryz.f6.results.toList _ [.s Cp4] .n (valE (nmL ([a0, a1] ++ kk)) sp2.e) (valH (nmL ([a0, a1] ++ kk)) sp2.h)
    refine Fin.deep (a := []) (deep_seq Cp4 [] (by kernel_rfl)) ?_
    show Fin (mkX Tryz.prog) (sem (mkX Tryz.prog) 100000 99) 100000 Tryz.f6.results.toList _ [.s Cp5, .s Cp6] .n (valE (nmL ([a0, a1] ++ kk)) sp2.e) (valH (nmL ([a0, a1] ++ kk)) sp2.h)
    refine Fin.deep (a := []) (deep_seq Cp5 [.s Cp6] (by kernel_rfl)) ?_
    show Fin (mkX Tryz.prog) (sem (mkX Tryz.prog) 100000 99) 100000 Tryz.f6.results.toList _ [.s Cp7, .s Cp8, .s Cp6] .n (valE (nmL ([a0, a1] ++ kk)) sp2.e) (valH (nmL ([a0, a1] ++ kk)) sp2.h)
    exact Go.Am.Fin.last (sem_fr 100000 99) z1 z2 z3 (fun g _ => rfl)
  have := law_of_fin (n := 99) (args := [nameV .i64 0, nameV .i64 1, .b false]) (tb := []) (ρ := nmL ([a0, a1] ++ kk)) Tryz.func6 (by rw [lx]; kernel_rfl) (by kernel_rfl) F
  have hv : vals (nmL ([a0, a1] ++ kk)) [nameV .i64 0, nameV .i64 1, .b false] = [.i .i64 a0, .i .i64 a1, .b false] := by
    simp only [vals, val, val_nameV]
    rfl
  rw [hv] at this
  exact this
theorem qran (a0 a1 : Int) (l0 : (-9223372036854775808 : Int) ≤ a0) (u0 : a0 ≤ (9223372036854775807 : Int)) (l1 : (-9223372036854775808 : Int) ≤ a1) (u1 : a1 ≤ (9223372036854775807 : Int)) (x0 : a1 < 0 ∨ 65535 < a1 ∨ a1 = 53) : ∃ h', sem (mkX Tryz.prog) 100000 100 6 [.i .i64 a0, .i .i64 a1, .b true] ⟨16, lay []⟩ = some (.b true, h') := by
  obtain ⟨kk, q', e', h', z1, z2, z3⟩ := end_ok (l := [a0, a1]) Bodies.xc Bodies.tabOkO sqpe qfits (qall a0 a1 l0 u0 l1 u1 x0)
  have F : Fin (mkX Tryz.prog) (sem (mkX Tryz.prog) 100000 99) 100000 Tryz.f6.results.toList (fun v _ => v = .b true) [.s Cq0] .n (valE (nmL ([a0, a1] ++ kk)) sq0.e) (valH (nmL ([a0, a1] ++ kk)) sq0.h) := by
    refine Fin.deep (a := []) (deep_seq Cq0 [] (by kernel_rfl)) ?_
    show Fin (mkX Tryz.prog) (sem (mkX Tryz.prog) 100000 99) 100000 Tryz.f6.results.toList _ [.s Cq1, .s Cq2] .n (valE (nmL ([a0, a1] ++ kk)) sq0.e) (valH (nmL ([a0, a1] ++ kk)) sq0.h)
    refine Fin.step (a := [.s Cq1]) (sem_fr 100000 99) (piece_ok (l := [a0, a1]) Bodies.xc Bodies.tabOkO sqp1 rfl trivial kk) ?_
    show Fin (mkX Tryz.prog) (sem (mkX Tryz.prog) 100000 99) 100000 Tryz.f6.results.toList _ [.s Cq2] .n (valE (nmL ([a0, a1] ++ kk)) sq1.e) (valH (nmL ([a0, a1] ++ kk)) sq1.h)
    refine Fin.deep (a := []) (deep_seq Cq2 [] (by kernel_rfl)) ?_
    show Fin (mkX Tryz.prog) (sem (mkX Tryz.prog) 100000 99) 100000 Tryz.f6.results.toList _ [.s Cq3, .s Cq4] .n (valE (nmL ([a0, a1] ++ kk)) sq1.e) (valH (nmL ([a0, a1] ++ kk)) sq1.h)
    refine Fin.step (a := [.s Cq3]) (sem_fr 100000 99) (piece_ok (l := [a0, a1]) Bodies.xc Bodies.tabOkO sqp2 rfl trivial kk) ?_
    show Fin (mkX Tryz.prog) (sem (mkX Tryz.prog) 100000 99) 100000 Tryz.f6.results.toList _ [.s Cq4] .n (valE (nmL ([a0, a1] ++ kk)) sq2.e) (valH (nmL ([a0, a1] ++ kk)) sq2.h)
    refine Fin.deep (a := []) (deep_seq Cq4 [] (by kernel_rfl)) ?_
    show Fin (mkX Tryz.prog) (sem (mkX Tryz.prog) 100000 99) 100000 Tryz.f6.results.toList _ [.s Cq5, .s Cq6] .n (valE (nmL ([a0, a1] ++ kk)) sq2.e) (valH (nmL ([a0, a1] ++ kk)) sq2.h)
    refine Fin.deep (a := []) (deep_seq Cq5 [.s Cq6] (by kernel_rfl)) ?_
    show Fin (mkX Tryz.prog) (sem (mkX Tryz.prog) 100000 99) 100000 Tryz.f6.results.toList _ [.s Cq7, .s Cq8, .s Cq6] .n (valE (nmL ([a0, a1] ++ kk)) sq2.e) (valH (nmL ([a0, a1] ++ kk)) sq2.h)
    exact Go.Am.Fin.last (sem_fr 100000 99) z1 z2 z3 (fun g _ => rfl)
  have := law_of_fin (n := 99) (args := [nameV .i64 0, nameV .i64 1, .b true]) (tb := []) (ρ := nmL ([a0, a1] ++ kk)) Tryz.func6 (by rw [lx]; kernel_rfl) (by kernel_rfl) F
  have hv : vals (nmL ([a0, a1] ++ kk)) [nameV .i64 0, nameV .i64 1, .b true] = [.i .i64 a0, .i .i64 a1, .b true] := by
    simp only [vals, val, val_nameV]
    rfl
  rw [hv] at this
  exact this
end Go.Proofs.YtcebbmappnbegaaGreatDoor.gateOpens
