/- ServeBars: what its run asks, and that it holds. -/
import Derived.Test.YtfkbofbdonmpfaaSy11
set_option linter.unusedSimpArgs false
set_option linter.unusedVariables false
set_option linter.unusedSectionVars false
set_option linter.unnecessarySimpa false
namespace Go.Proofs.Ytfkbofbdonmpfaa.serveBars
open Go.Am

def T0 : Pt := (.fork (.lt (.c 3000) (.v 0)) .done (.fork (.lt (.c 0) (.v 0)) (.yes (.le (.v 0) (.c 1099511627776)) (.fork (.lt (.v 0) (.c 600)) (.no (.le (.c 600) (.v 0)) .done) (.is (.ib .add .i64 (.v 0) (.c 3600)) (.a 0 (3600)) (.yes (.le (.c 600) (.v 0)) .done)))) (.no (.le (.c 600) (.v 0)) .done)))
def T1 : Pt := (.fork (.lt (.v 0) (.c 0)) .done T0)

theorem o0 (a0 : Int) (h0 : (-9223372036854775808) ≤ a0) (h1 : a0 ≤ 9223372036854775807) (h2 : ¬ (3000 : Int) < a0) (h3 : (0 : Int) < a0) : a0 ≤ (1099511627776 : Int) := by omega
theorem o1 (a0 : Int) (h0 : (-9223372036854775808) ≤ a0) (h1 : a0 ≤ 9223372036854775807) (h2 : (0 : Int) < a0) (h3 : a0 < (600 : Int)) : ¬ (600 : Int) ≤ a0 := by omega
theorem o2 (a0 : Int) (h0 : (-9223372036854775808) ≤ a0) (h1 : a0 ≤ 9223372036854775807) (h2 : ¬ (3000 : Int) < a0) (h3 : ¬ a0 < (600 : Int)) : (a0 + (3600 : Int) + 9223372036854775808) % 18446744073709551616 - 9223372036854775808 = (a0 + (3600 : Int)) := by omega
theorem o3 (a0 : Int) (h0 : (-9223372036854775808) ≤ a0) (h1 : a0 ≤ 9223372036854775807) (h2 : ¬ (3000 : Int) < a0) (h3 : ¬ a0 < (600 : Int)) : (600 : Int) ≤ a0 := by omega
theorem o4 (a0 : Int) (h0 : (-9223372036854775808) ≤ a0) (h1 : a0 ≤ 9223372036854775807) (h2 : ¬ a0 < (0 : Int)) (h3 : ¬ (0 : Int) < a0) : ¬ (600 : Int) ≤ a0 := by omega

theorem t0 (a0 : Int) (l0 : (-9223372036854775808) ≤ a0) (u0 : a0 ≤ 9223372036854775807) : T1.holds [a0] := by
  refine Pt.h_fork (fun (f0 : a0 < (0 : Int)) => ?_) (fun (f0 : ¬ a0 < (0 : Int)) => ?_)
  · skip
    exact Pt.h_done
  · skip
    refine Pt.h_fork (fun (f1 : (3000 : Int) < a0) => ?_) (fun (f1 : ¬ (3000 : Int) < a0) => ?_)
    · skip
      exact Pt.h_done
    · skip
      refine Pt.h_fork (fun (f2 : (0 : Int) < a0) => ?_) (fun (f2 : ¬ (0 : Int) < a0) => ?_)
      · skip
        refine Pt.h_yes (show a0 ≤ (1099511627776 : Int) from (o0 a0 l0 u0 f1 f2)) ?_
        refine Pt.h_fork (fun (f3 : a0 < (600 : Int)) => ?_) (fun (f3 : ¬ a0 < (600 : Int)) => ?_)
        · skip
          refine Pt.h_no (show ¬ (600 : Int) ≤ a0 from (o1 a0 l0 u0 f2 f3)) ?_
          exact Pt.h_done
        · skip
          refine Pt.h_is (v_add rfl rfl  ((wrap_i64 _).trans (o2 a0 l0 u0 f1 f3))) ?_
          refine Pt.h_yes (show (600 : Int) ≤ a0 from (o3 a0 l0 u0 f1 f3)) ?_
          exact Pt.h_done
      · skip
        refine Pt.h_no (show ¬ (600 : Int) ≤ a0 from (o4 a0 l0 u0 f0 f2)) ?_
        exact Pt.h_done

end Go.Proofs.Ytfkbofbdonmpfaa.serveBars
