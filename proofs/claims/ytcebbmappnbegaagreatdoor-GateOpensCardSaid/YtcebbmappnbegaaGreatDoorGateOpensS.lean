/- GateOpens: what its pieces ask. -/
import Derived.Test.YtcebbmappnbegaaGreatDoorGateOpensA
set_option linter.unusedSimpArgs false
set_option linter.unusedVariables false
set_option linter.unusedSectionVars false
set_option linter.unnecessarySimpa false
set_option maxRecDepth 100000
namespace Go.Proofs.YtcebbmappnbegaaGreatDoor.gateOpens
open Go.Am
def scT3 : Pt := (.no (.lt (.v 1) (.c 0)) (.no (.lt (.c 65535) (.v 1)) (.no (.eq (.v 1) (.c 53)) .done)))
theorem sch3 (a0 a1 : Int) (l0 : (-9223372036854775808 : Int) ≤ a0) (u0 : a0 ≤ (9223372036854775807 : Int)) (l1 : (0 : Int) ≤ a1) (u1 : a1 ≤ (52 : Int)) : scT3.holds [a0, a1] := (Pt.h_no (show ¬ a1 < (0 : Int) by omega) (Pt.h_no (show ¬ (65535 : Int) < a1 by omega) (Pt.h_no (show ¬ a1 = (53 : Int) by omega) Pt.h_done)))
def sdT3 : Pt := (.no (.lt (.v 1) (.c 0)) (.no (.lt (.c 65535) (.v 1)) (.no (.eq (.v 1) (.c 53)) .done)))
theorem sdh3 (a0 a1 : Int) (l0 : (-9223372036854775808 : Int) ≤ a0) (u0 : a0 ≤ (9223372036854775807 : Int)) (l1 : (0 : Int) ≤ a1) (u1 : a1 ≤ (52 : Int)) : sdT3.holds [a0, a1] := (Pt.h_no (show ¬ a1 < (0 : Int) by omega) (Pt.h_no (show ¬ (65535 : Int) < a1 by omega) (Pt.h_no (show ¬ a1 = (53 : Int) by omega) Pt.h_done)))
def seT3 : Pt := (.no (.lt (.v 1) (.c 0)) (.no (.lt (.c 65535) (.v 1)) (.no (.eq (.v 1) (.c 53)) .done)))
theorem seh3 (a0 a1 : Int) (l0 : (-9223372036854775808 : Int) ≤ a0) (u0 : a0 ≤ (9223372036854775807 : Int)) (l1 : (54 : Int) ≤ a1) (u1 : a1 ≤ (65535 : Int)) : seT3.holds [a0, a1] := (Pt.h_no (show ¬ a1 < (0 : Int) by omega) (Pt.h_no (show ¬ (65535 : Int) < a1 by omega) (Pt.h_no (show ¬ a1 = (53 : Int) by omega) Pt.h_done)))
def sfT3 : Pt := (.no (.lt (.v 1) (.c 0)) (.no (.lt (.c 65535) (.v 1)) (.no (.eq (.v 1) (.c 53)) .done)))
theorem sfh3 (a0 a1 : Int) (l0 : (-9223372036854775808 : Int) ≤ a0) (u0 : a0 ≤ (9223372036854775807 : Int)) (l1 : (54 : Int) ≤ a1) (u1 : a1 ≤ (65535 : Int)) : sfT3.holds [a0, a1] := (Pt.h_no (show ¬ a1 < (0 : Int) by omega) (Pt.h_no (show ¬ (65535 : Int) < a1 by omega) (Pt.h_no (show ¬ a1 = (53 : Int) by omega) Pt.h_done)))
def pTE : Pt := (.fork (.lt (.v 1) (.c 0)) .done (.fork (.lt (.c 65535) (.v 1)) .done (.yes (.eq (.v 1) (.c 53)) .done)))
theorem pall (a0 a1 : Int) (l0 : (-9223372036854775808 : Int) ≤ a0) (u0 : a0 ≤ (9223372036854775807 : Int)) (l1 : (-9223372036854775808 : Int) ≤ a1) (u1 : a1 ≤ (9223372036854775807 : Int)) (x0 : a1 < 0 ∨ 65535 < a1 ∨ a1 = 53) : pTE.holds [a0, a1] := (Pt.h_fork (fun (_ : a1 < (0 : Int)) => Pt.h_done) (fun (_ : ¬ a1 < (0 : Int)) => (Pt.h_fork (fun (_ : (65535 : Int) < a1) => Pt.h_done) (fun (_ : ¬ (65535 : Int) < a1) => (Pt.h_yes (show a1 = (53 : Int) by omega) Pt.h_done)))))
def qTE : Pt := (.fork (.lt (.v 1) (.c 0)) .done (.fork (.lt (.c 65535) (.v 1)) .done (.yes (.eq (.v 1) (.c 53)) .done)))
theorem qall (a0 a1 : Int) (l0 : (-9223372036854775808 : Int) ≤ a0) (u0 : a0 ≤ (9223372036854775807 : Int)) (l1 : (-9223372036854775808 : Int) ≤ a1) (u1 : a1 ≤ (9223372036854775807 : Int)) (x0 : a1 < 0 ∨ 65535 < a1 ∨ a1 = 53) : qTE.holds [a0, a1] := (Pt.h_fork (fun (_ : a1 < (0 : Int)) => Pt.h_done) (fun (_ : ¬ a1 < (0 : Int)) => (Pt.h_fork (fun (_ : (65535 : Int) < a1) => Pt.h_done) (fun (_ : ¬ (65535 : Int) < a1) => (Pt.h_yes (show a1 = (53 : Int) by omega) Pt.h_done)))))
end Go.Proofs.YtcebbmappnbegaaGreatDoor.gateOpens
