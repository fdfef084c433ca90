/- PoolBars: what its run asks, and that it holds. -/
import Derived.Test.YtfkbofbdonmpfaaSy11
set_option linter.unusedSimpArgs false
set_option linter.unusedVariables false
set_option linter.unusedSectionVars false
set_option linter.unnecessarySimpa false
namespace Go.Proofs.Ytfkbofbdonmpfaa.poolBars
open Go.Am

def T0 : Pt := (.yes (.le (.v 1) (.c 1099511627776)) (.fork (.lt (.v 1) (.v 0)) (.yes (.lt (.v 1) (.v 0)) (.no (.lt (.v 1) (.v 1)) (.yes (.lt (.v 1) (.v 0)) (.yes (.lt (.v 1) (.v 0)) .done)))) (.no (.lt (.v 1) (.v 1)) (.no (.lt (.v 1) (.v 0)) (.new (.ib .add .i64 (.v 1) (.c 10)) (.no (.lt (.v 1) (.v 0)) .done))))))
def T1 : Pt := (.yes (.le (.c 1) (.v 0)) (.yes (.le (.v 0) (.c 1000000000)) (.is (.ib .add .i64 (.c 0) (.v 0)) (.v 0) (.fork (.lt (.c 0) (.v 1)) T0 (.yes (.lt (.c 0) (.v 0)) (.yes (.lt (.c 0) (.v 0)) (.no (.lt (.c 0) (.v 1)) (.yes (.lt (.c 0) (.v 0)) (.yes (.lt (.v 1) (.v 0)) .done)))))))))
def T2 : Pt := (.fork (.lt (.c 2000) (.v 1)) .done T1)
def T3 : Pt := (.fork (.lt (.v 1) (.c 0)) .done T2)
def T4 : Pt := (.fork (.lt (.c 1000) (.v 0)) .done T3)
def T5 : Pt := (.fork (.lt (.v 0) (.c 1)) .done T4)

theorem o0 (a0 : Int) (h0 : (-9223372036854775808) ≤ a0) (h1 : a0 ≤ 9223372036854775807) (h2 : ¬ a0 < 1) (h3 : ¬ 1000 < a0) : 1 ≤ a0 := by omega
theorem o1 (a0 : Int) (h0 : (-9223372036854775808) ≤ a0) (h1 : a0 ≤ 9223372036854775807) (h2 : ¬ a0 < 1) (h3 : ¬ 1000 < a0) : a0 ≤ 1000000000 := by omega
theorem o2 (a0 : Int) (h0 : (-9223372036854775808) ≤ a0) (h1 : a0 ≤ 9223372036854775807) (h2 : ¬ a0 < 1) (h3 : ¬ 1000 < a0) : (0 + a0 + 9223372036854775808) % 18446744073709551616 - 9223372036854775808 = a0 := by omega
theorem o3 (a1 : Int) (h0 : (-9223372036854775808) ≤ a1) (h1 : a1 ≤ 9223372036854775807) (h2 : ¬ a1 < 0) (h3 : ¬ 2000 < a1) (h4 : 0 < a1) : a1 ≤ 1099511627776 := by omega
theorem o4 (a1 : Int) (h0 : (-9223372036854775808) ≤ a1) (h1 : a1 ≤ 9223372036854775807) (h2 : ¬ a1 < 0) (h3 : ¬ 2000 < a1) (h4 : 0 < a1) : ¬ a1 < a1 := by omega
theorem o5 (a1 z2 : Int) (h0 : (-9223372036854775808) ≤ a1) (h1 : a1 ≤ 9223372036854775807) (h2 : ¬ a1 < 0) (h3 : ¬ 2000 < a1) (h4 : 0 < a1) (h5 : z2 = a1 + 10) : (a1 + 10 + 9223372036854775808) % 18446744073709551616 - 9223372036854775808 = z2 := by omega
theorem o6 (a0 : Int) (h0 : (-9223372036854775808) ≤ a0) (h1 : a0 ≤ 9223372036854775807) (h2 : ¬ a0 < 1) (h3 : ¬ 1000 < a0) : 0 < a0 := by omega
theorem o7 (a0 a1 : Int) (h0 : (-9223372036854775808) ≤ a0) (h1 : a0 ≤ 9223372036854775807) (h2 : (-9223372036854775808) ≤ a1) (h3 : a1 ≤ 9223372036854775807) (h4 : ¬ a0 < 1) (h5 : ¬ 1000 < a0) (h6 : ¬ a1 < 0) (h7 : ¬ 2000 < a1) (h8 : ¬ 0 < a1) : a1 < a0 := by omega

theorem t4 (a0 a1 : Int) (l0 : (-9223372036854775808) ≤ a0) (u0 : a0 ≤ 9223372036854775807) (l1 : (-9223372036854775808) ≤ a1) (u1 : a1 ≤ 9223372036854775807) (f0 : ¬ a0 < 1) (f1 : ¬ 1000 < a0) (f2 : ¬ a1 < 0) (f3 : ¬ 2000 < a1) : T1.holds [a0, a1] := by
  refine Pt.h_yes (show 1 ≤ a0 from (o0 a0 l0 u0 f0 f1)) ?_
  refine Pt.h_yes (show a0 ≤ 1000000000 from (o1 a0 l0 u0 f0 f1)) ?_
  refine Pt.h_is (v_add rfl rfl  ((wrap_i64 _).trans (o2 a0 l0 u0 f0 f1))) ?_
  refine Pt.h_fork (fun (f4 : 0 < a1) => ?_) (fun (f4 : ¬ 0 < a1) => ?_)
  · skip
    refine Pt.h_yes (show a1 ≤ 1099511627776 from (o3 a1 l1 u1 f2 f3 f4)) ?_
    refine Pt.h_fork (fun (f5 : a1 < a0) => ?_) (fun (f5 : ¬ a1 < a0) => ?_)
    · skip
      refine Pt.h_yes (show a1 < a0 from f5) ?_
      refine Pt.h_no (show ¬ a1 < a1 from (o4 a1 l1 u1 f2 f3 f4)) ?_
      refine Pt.h_yes (show a1 < a0 from f5) ?_
      refine Pt.h_yes (show a1 < a0 from f5) ?_
      exact Pt.h_done
    · skip
      refine Pt.h_no (show ¬ a1 < a1 from (o4 a1 l1 u1 f2 f3 f4)) ?_
      refine Pt.h_no (show ¬ a1 < a0 from f5) ?_
      obtain ⟨z2, e2⟩ : ∃ z : Int, z = a1 + 10 := ⟨_, rfl⟩
      refine Pt.h_new (v_add rfl rfl  ((wrap_i64 _).trans (o5 a1 z2 l1 u1 f2 f3 f4 e2))) (show _ = [a0, a1, z2] from rfl) ?_
      refine Pt.h_no (show ¬ a1 < a0 from f5) ?_
      exact Pt.h_done
  · skip
    refine Pt.h_yes (show 0 < a0 from (o6 a0 l0 u0 f0 f1)) ?_
    refine Pt.h_yes (show 0 < a0 from (o6 a0 l0 u0 f0 f1)) ?_
    refine Pt.h_no (show ¬ 0 < a1 from f4) ?_
    refine Pt.h_yes (show 0 < a0 from (o6 a0 l0 u0 f0 f1)) ?_
    refine Pt.h_yes (show a1 < a0 from (o7 a0 a1 l0 u0 l1 u1 f0 f1 f2 f3 f4)) ?_
    exact Pt.h_done

theorem t3 (a0 a1 : Int) (l0 : (-9223372036854775808) ≤ a0) (u0 : a0 ≤ 9223372036854775807) (l1 : (-9223372036854775808) ≤ a1) (u1 : a1 ≤ 9223372036854775807) (f0 : ¬ a0 < 1) (f1 : ¬ 1000 < a0) (f2 : ¬ a1 < 0) : T2.holds [a0, a1] := by
  refine Pt.h_fork (fun (f3 : 2000 < a1) => ?_) (fun (f3 : ¬ 2000 < a1) => ?_)
  · skip
    exact Pt.h_done
  · skip
    exact t4 a0 a1 l0 u0 l1 u1 f0 f1 f2 f3

theorem t2 (a0 a1 : Int) (l0 : (-9223372036854775808) ≤ a0) (u0 : a0 ≤ 9223372036854775807) (l1 : (-9223372036854775808) ≤ a1) (u1 : a1 ≤ 9223372036854775807) (f0 : ¬ a0 < 1) (f1 : ¬ 1000 < a0) : T3.holds [a0, a1] := by
  refine Pt.h_fork (fun (f2 : a1 < 0) => ?_) (fun (f2 : ¬ a1 < 0) => ?_)
  · skip
    exact Pt.h_done
  · skip
    exact t3 a0 a1 l0 u0 l1 u1 f0 f1 f2

theorem t1 (a0 a1 : Int) (l0 : (-9223372036854775808) ≤ a0) (u0 : a0 ≤ 9223372036854775807) (l1 : (-9223372036854775808) ≤ a1) (u1 : a1 ≤ 9223372036854775807) (f0 : ¬ a0 < 1) : T4.holds [a0, a1] := by
  refine Pt.h_fork (fun (f1 : 1000 < a0) => ?_) (fun (f1 : ¬ 1000 < a0) => ?_)
  · skip
    exact Pt.h_done
  · skip
    exact t2 a0 a1 l0 u0 l1 u1 f0 f1

theorem t0 (a0 a1 : Int) (l0 : (-9223372036854775808) ≤ a0) (u0 : a0 ≤ 9223372036854775807) (l1 : (-9223372036854775808) ≤ a1) (u1 : a1 ≤ 9223372036854775807) : T5.holds [a0, a1] := by
  refine Pt.h_fork (fun (f0 : a0 < 1) => ?_) (fun (f0 : ¬ a0 < 1) => ?_)
  · skip
    exact Pt.h_done
  · skip
    exact t1 a0 a1 l0 u0 l1 u1 f0

end Go.Proofs.Ytfkbofbdonmpfaa.poolBars
