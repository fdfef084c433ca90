/- ServeRenews: what its run asks, and that it holds. -/
import Derived.Test.YtfkbofbdonmpfaaSy11
set_option linter.unusedSimpArgs false
set_option linter.unusedVariables false
set_option linter.unusedSectionVars false
set_option linter.unnecessarySimpa false
namespace Go.Proofs.Ytfkbofbdonmpfaa.serveRenews
open Go.Am

def T0 : Pt := (.yes (.le (.v 0) (.c 1099511627776)) (.yes (.eq (.v 1) (.v 1)) (.yes (.lt (.v 0) (.c 3600)) (.is (.ib .add .i64 (.v 0) (.c 3600)) (.a 0 (3600)) (.is (.ib .add .i64 (.v 0) (.c 3599)) (.a 0 (3599)) (.yes (.lt (.v 0) (.a 0 (3599))) (.yes (.le (.a 0 (3599)) (.c 1099511627776)) (.yes (.lt (.a 0 (3599)) (.a 0 (3600))) (.yes (.le (.a 0 (3600)) (.c 1099511627776)) (.no (.lt (.a 0 (3600)) (.a 0 (3600))) .done))))))))))
def T1 : Pt := (.is (.wr .u8 (.v 1)) (.v 1) (.is (.wr .u32 (.v 1)) (.v 1) (.is (.ib .or .u32 (.c 3232235776) (.v 1)) (.a 1 (3232235776)) (.yes (.le (.c 3232235876) (.a 1 (3232235776))) (.yes (.le (.a 1 (3232235776)) (.c 3232235907)) (.fork (.lt (.c 0) (.v 0)) T0 (.yes (.eq (.v 1) (.v 1)) (.is (.ib .add .i64 (.v 0) (.c 3599)) (.c 3599) (.is (.ib .add .i64 (.v 0) (.c 3600)) (.c 3600) .done)))))))))
def T2 : Pt := (.fork (.lt (.c 131) (.v 1)) .done T1)
def T3 : Pt := (.fork (.lt (.v 1) (.c 100)) .done T2)
def T4 : Pt := (.fork (.lt (.c 3599) (.v 0)) .done T3)
def T5 : Pt := (.fork (.lt (.v 0) (.c 0)) .done T4)

theorem o0 (a1 : Int) (h0 : (-9223372036854775808) ≤ a1) (h1 : a1 ≤ 9223372036854775807) (h2 : ¬ a1 < (100 : Int)) (h3 : ¬ (131 : Int) < a1) : (a1) % 256 = a1 := by omega
theorem o1 (a1 : Int) (h0 : (-9223372036854775808) ≤ a1) (h1 : a1 ≤ 9223372036854775807) (h2 : ¬ a1 < (100 : Int)) (h3 : ¬ (131 : Int) < a1) : (a1) % 4294967296 = a1 := by omega
theorem o2 (a1 : Int) (h0 : (-9223372036854775808) ≤ a1) (h1 : a1 ≤ 9223372036854775807) (h2 : ¬ a1 < (100 : Int)) (h3 : ¬ (131 : Int) < a1) : 0 ≤ (3232235776 : Int) := by omega
theorem o3 (a1 : Int) (h0 : (-9223372036854775808) ≤ a1) (h1 : a1 ≤ 9223372036854775807) (h2 : ¬ a1 < (100 : Int)) (h3 : ¬ (131 : Int) < a1) : (3232235776 : Int) < 4294967296 := by omega
theorem o4 (a1 : Int) (h0 : (-9223372036854775808) ≤ a1) (h1 : a1 ≤ 9223372036854775807) (h2 : ¬ a1 < (100 : Int)) (h3 : ¬ (131 : Int) < a1) : (3232235776 : Int) % 256 = 0 := by omega
theorem o5 (a1 : Int) (h0 : (-9223372036854775808) ≤ a1) (h1 : a1 ≤ 9223372036854775807) (h2 : ¬ a1 < (100 : Int)) (h3 : ¬ (131 : Int) < a1) : 0 ≤ a1 := by omega
theorem o6 (a1 : Int) (h0 : (-9223372036854775808) ≤ a1) (h1 : a1 ≤ 9223372036854775807) (h2 : ¬ a1 < (100 : Int)) (h3 : ¬ (131 : Int) < a1) : a1 < 256 := by omega
theorem o7 (a1 : Int) (h0 : (-9223372036854775808) ≤ a1) (h1 : a1 ≤ 9223372036854775807) (h2 : ¬ a1 < (100 : Int)) (h3 : ¬ (131 : Int) < a1) : ((3232235776 : Int) + a1) % 4294967296 = (a1 + (3232235776 : Int)) := by omega
theorem o8 (a1 : Int) (h0 : (-9223372036854775808) ≤ a1) (h1 : a1 ≤ 9223372036854775807) (h2 : ¬ a1 < (100 : Int)) (h3 : ¬ (131 : Int) < a1) : (3232235876 : Int) ≤ (a1 + (3232235776 : Int)) := by omega
theorem o9 (a1 : Int) (h0 : (-9223372036854775808) ≤ a1) (h1 : a1 ≤ 9223372036854775807) (h2 : ¬ a1 < (100 : Int)) (h3 : ¬ (131 : Int) < a1) : (a1 + (3232235776 : Int)) ≤ (3232235907 : Int) := by omega
theorem o10 (a0 : Int) (h0 : (-9223372036854775808) ≤ a0) (h1 : a0 ≤ 9223372036854775807) (h2 : ¬ (3599 : Int) < a0) (h3 : (0 : Int) < a0) : a0 ≤ (1099511627776 : Int) := by omega
theorem o11 (a1 : Int) (h0 : (-9223372036854775808) ≤ a1) (h1 : a1 ≤ 9223372036854775807) (h2 : ¬ a1 < (100 : Int)) (h3 : ¬ (131 : Int) < a1) : a1 = a1 := by omega
theorem o12 (a0 : Int) (h0 : (-9223372036854775808) ≤ a0) (h1 : a0 ≤ 9223372036854775807) (h2 : ¬ (3599 : Int) < a0) (h3 : (0 : Int) < a0) : a0 < (3600 : Int) := by omega
theorem o13 (a0 : Int) (h0 : (-9223372036854775808) ≤ a0) (h1 : a0 ≤ 9223372036854775807) (h2 : ¬ (3599 : Int) < a0) (h3 : (0 : Int) < a0) : (a0 + (3600 : Int) + 9223372036854775808) % 18446744073709551616 - 9223372036854775808 = (a0 + (3600 : Int)) := by omega
theorem o14 (a0 : Int) (h0 : (-9223372036854775808) ≤ a0) (h1 : a0 ≤ 9223372036854775807) (h2 : ¬ (3599 : Int) < a0) (h3 : (0 : Int) < a0) : (a0 + (3599 : Int) + 9223372036854775808) % 18446744073709551616 - 9223372036854775808 = (a0 + (3599 : Int)) := by omega
theorem o15 (a0 : Int) (h0 : (-9223372036854775808) ≤ a0) (h1 : a0 ≤ 9223372036854775807) (h2 : ¬ (3599 : Int) < a0) (h3 : (0 : Int) < a0) : a0 < (a0 + (3599 : Int)) := by omega
theorem o16 (a0 : Int) (h0 : (-9223372036854775808) ≤ a0) (h1 : a0 ≤ 9223372036854775807) (h2 : ¬ (3599 : Int) < a0) (h3 : (0 : Int) < a0) : (a0 + (3599 : Int)) ≤ (1099511627776 : Int) := by omega
theorem o17 (a0 : Int) (h0 : (-9223372036854775808) ≤ a0) (h1 : a0 ≤ 9223372036854775807) (h2 : ¬ (3599 : Int) < a0) (h3 : (0 : Int) < a0) : (a0 + (3599 : Int)) < (a0 + (3600 : Int)) := by omega
theorem o18 (a0 : Int) (h0 : (-9223372036854775808) ≤ a0) (h1 : a0 ≤ 9223372036854775807) (h2 : ¬ (3599 : Int) < a0) (h3 : (0 : Int) < a0) : (a0 + (3600 : Int)) ≤ (1099511627776 : Int) := by omega
theorem o19 (a0 : Int) (h0 : (-9223372036854775808) ≤ a0) (h1 : a0 ≤ 9223372036854775807) (h2 : ¬ (3599 : Int) < a0) (h3 : (0 : Int) < a0) : ¬ (a0 + (3600 : Int)) < (a0 + (3600 : Int)) := by omega
theorem o20 (a0 : Int) (h0 : (-9223372036854775808) ≤ a0) (h1 : a0 ≤ 9223372036854775807) (h2 : ¬ a0 < (0 : Int)) (h3 : ¬ (0 : Int) < a0) : (a0 + (3599 : Int) + 9223372036854775808) % 18446744073709551616 - 9223372036854775808 = (3599 : Int) := by omega
theorem o21 (a0 : Int) (h0 : (-9223372036854775808) ≤ a0) (h1 : a0 ≤ 9223372036854775807) (h2 : ¬ a0 < (0 : Int)) (h3 : ¬ (0 : Int) < a0) : (a0 + (3600 : Int) + 9223372036854775808) % 18446744073709551616 - 9223372036854775808 = (3600 : Int) := by omega

theorem t0 (a0 a1 : Int) (l0 : (-9223372036854775808) ≤ a0) (u0 : a0 ≤ 9223372036854775807) (l1 : (-9223372036854775808) ≤ a1) (u1 : a1 ≤ 9223372036854775807) : T5.holds [a0, a1] := by
  refine Pt.h_fork (fun (f0 : a0 < (0 : Int)) => ?_) (fun (f0 : ¬ a0 < (0 : Int)) => ?_)
  · skip
    exact Pt.h_done
  · skip
    refine Pt.h_fork (fun (f1 : (3599 : Int) < a0) => ?_) (fun (f1 : ¬ (3599 : Int) < a0) => ?_)
    · skip
      exact Pt.h_done
    · skip
      refine Pt.h_fork (fun (f2 : a1 < (100 : Int)) => ?_) (fun (f2 : ¬ a1 < (100 : Int)) => ?_)
      · skip
        exact Pt.h_done
      · skip
        refine Pt.h_fork (fun (f3 : (131 : Int) < a1) => ?_) (fun (f3 : ¬ (131 : Int) < a1) => ?_)
        · skip
          exact Pt.h_done
        · skip
          refine Pt.h_is (v_wr rfl  ((wrap_u8 _).trans (o0 a1 l1 u1 f2 f3))) ?_
          refine Pt.h_is (v_wr rfl  ((wrap_u32 _).trans (o1 a1 l1 u1 f2 f3))) ?_
          refine Pt.h_is (v_or 8 256 rfl rfl (by decide) (by decide) (o2 a1 l1 u1 f2 f3) (show (3232235776 : Int) < (2 : Int) ^ IntKind.bits .u32 from (o3 a1 l1 u1 f2 f3)) (o4 a1 l1 u1 f2 f3) (o5 a1 l1 u1 f2 f3) (o6 a1 l1 u1 f2 f3) ((wrap_u32 _).trans (o7 a1 l1 u1 f2 f3))) ?_
          refine Pt.h_yes (show (3232235876 : Int) ≤ (a1 + (3232235776 : Int)) from (o8 a1 l1 u1 f2 f3)) ?_
          refine Pt.h_yes (show (a1 + (3232235776 : Int)) ≤ (3232235907 : Int) from (o9 a1 l1 u1 f2 f3)) ?_
          refine Pt.h_fork (fun (f4 : (0 : Int) < a0) => ?_) (fun (f4 : ¬ (0 : Int) < a0) => ?_)
          · skip
            refine Pt.h_yes (show a0 ≤ (1099511627776 : Int) from (o10 a0 l0 u0 f1 f4)) ?_
            refine Pt.h_yes (show a1 = a1 from (o11 a1 l1 u1 f2 f3)) ?_
            refine Pt.h_yes (show a0 < (3600 : Int) from (o12 a0 l0 u0 f1 f4)) ?_
            refine Pt.h_is (v_add rfl rfl  ((wrap_i64 _).trans (o13 a0 l0 u0 f1 f4))) ?_
            refine Pt.h_is (v_add rfl rfl  ((wrap_i64 _).trans (o14 a0 l0 u0 f1 f4))) ?_
            refine Pt.h_yes (show a0 < (a0 + (3599 : Int)) from (o15 a0 l0 u0 f1 f4)) ?_
            refine Pt.h_yes (show (a0 + (3599 : Int)) ≤ (1099511627776 : Int) from (o16 a0 l0 u0 f1 f4)) ?_
            refine Pt.h_yes (show (a0 + (3599 : Int)) < (a0 + (3600 : Int)) from (o17 a0 l0 u0 f1 f4)) ?_
            refine Pt.h_yes (show (a0 + (3600 : Int)) ≤ (1099511627776 : Int) from (o18 a0 l0 u0 f1 f4)) ?_
            refine Pt.h_no (show ¬ (a0 + (3600 : Int)) < (a0 + (3600 : Int)) from (o19 a0 l0 u0 f1 f4)) ?_
            exact Pt.h_done
          · skip
            refine Pt.h_yes (show a1 = a1 from (o11 a1 l1 u1 f2 f3)) ?_
            refine Pt.h_is (v_add rfl rfl  ((wrap_i64 _).trans (o20 a0 l0 u0 f0 f4))) ?_
            refine Pt.h_is (v_add rfl rfl  ((wrap_i64 _).trans (o21 a0 l0 u0 f0 f4))) ?_
            exact Pt.h_done

end Go.Proofs.Ytfkbofbdonmpfaa.serveRenews
