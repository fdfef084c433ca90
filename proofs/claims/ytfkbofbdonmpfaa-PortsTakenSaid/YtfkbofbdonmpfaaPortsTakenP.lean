/- PortsTaken: what its run asks, and that it holds. -/
import Derived.Test.YtfkbofbdonmpfaaSy11
set_option linter.unusedSimpArgs false
set_option linter.unusedVariables false
set_option linter.unusedSectionVars false
set_option linter.unnecessarySimpa false
namespace Go.Proofs.Ytfkbofbdonmpfaa.portsTaken
open Go.Am

def T0 : Pt := (.yes (.lt (.v 4) (.v 3)) (.new (.ib .add .i64 (.v 4) (.c 99)) (.no (.lt (.v 4) (.v 4)) (.yes (.lt (.v 4) (.v 6)) (.no (.eq (.v 0) (.c 4)) (.yes (.le (.c 1) (.v 2)) (.yes (.le (.v 2) (.c 65535)) (.yes (.le (.c 2) (.v 0)) (.yes (.le (.v 0) (.c 4)) (.no (.eq (.v 0) (.c 4)) (.yes (.lt (.v 4) (.v 3)) (.yes (.eq (.v 0) (.v 0)) (.yes (.eq (.v 2) (.v 2)) (.no (.lt (.v 4) (.v 4)) (.no (.eq (.v 0) (.c 4)) (.yes (.lt (.v 4) (.v 6)) .done))))))))))))))))
def T1 : Pt := (.yes (.lt (.v 4) (.v 3)) (.new (.ib .add .i64 (.v 4) (.c 99)) (.no (.lt (.v 4) (.v 4)) (.yes (.lt (.v 4) (.v 6)) (.no (.eq (.v 0) (.c 4)) (.yes (.le (.c 1) (.v 2)) (.yes (.le (.v 2) (.c 65535)) (.yes (.le (.c 2) (.v 0)) (.yes (.le (.v 0) (.c 4)) (.no (.eq (.v 0) (.c 4)) (.yes (.lt (.v 4) (.v 3)) (.yes (.eq (.v 0) (.v 0)) (.yes (.eq (.v 2) (.v 2)) (.no (.lt (.v 4) (.v 4)) (.no (.eq (.v 0) (.c 4)) (.yes (.lt (.v 4) (.v 6)) .done))))))))))))))))
def T2 : Pt := (.fork (.eq (.v 0) (.v 1)) T0 T1)
def T3 : Pt := (.yes (.le (.v 4) (.c 1099511627776)) (.yes (.lt (.v 4) (.v 5)) (.no (.eq (.v 1) (.c 4)) (.yes (.le (.c 1) (.v 2)) (.yes (.le (.v 2) (.c 65535)) (.yes (.le (.c 2) (.v 1)) (.yes (.le (.v 1) (.c 4)) (.no (.eq (.v 0) (.c 4)) (.fork (.lt (.v 4) (.v 3)) T2 (.no (.eq (.v 0) (.c 4)) (.no (.lt (.v 4) (.v 3)) (.no (.lt (.v 4) (.v 3)) (.no (.lt (.v 4) (.v 4)) (.no (.eq (.v 1) (.c 4)) (.yes (.lt (.v 4) (.v 5)) .done)))))))))))))))
def T4 : Pt := (.yes (.lt (.v 4) (.v 3)) (.is (.ib .add .i64 (.v 4) (.c 99)) (.c 99) (.no (.lt (.c 0) (.v 4)) (.no (.eq (.v 0) (.c 4)) (.yes (.le (.c 1) (.v 2)) (.yes (.le (.v 2) (.c 65535)) (.yes (.le (.c 2) (.v 0)) (.yes (.le (.v 0) (.c 4)) (.no (.eq (.v 0) (.c 4)) (.yes (.lt (.c 0) (.v 3)) (.yes (.eq (.v 0) (.v 0)) (.yes (.eq (.v 2) (.v 2)) (.no (.lt (.c 0) (.v 4)) (.no (.eq (.v 0) (.c 4)) .done))))))))))))))
def T5 : Pt := (.yes (.lt (.v 4) (.v 3)) (.is (.ib .add .i64 (.v 4) (.c 99)) (.c 99) (.no (.lt (.c 0) (.v 4)) (.no (.eq (.v 0) (.c 4)) (.yes (.le (.c 1) (.v 2)) (.yes (.le (.v 2) (.c 65535)) (.yes (.le (.c 2) (.v 0)) (.yes (.le (.v 0) (.c 4)) (.no (.eq (.v 0) (.c 4)) (.yes (.lt (.c 0) (.v 3)) (.yes (.eq (.v 0) (.v 0)) (.yes (.eq (.v 2) (.v 2)) (.no (.lt (.c 0) (.v 4)) (.no (.eq (.v 0) (.c 4)) .done))))))))))))))
def T6 : Pt := (.yes (.lt (.c 0) (.v 5)) (.no (.eq (.v 1) (.c 4)) (.yes (.le (.c 1) (.v 2)) (.yes (.le (.v 2) (.c 65535)) (.yes (.le (.c 2) (.v 1)) (.yes (.le (.v 1) (.c 4)) (.no (.eq (.v 0) (.c 4)) (.yes (.lt (.c 0) (.v 3)) (.fork (.eq (.v 0) (.v 1)) T4 T5)))))))))
def T7 : Pt := (.new (.ib .add .i64 (.v 4) (.c 50)) (.yes (.lt (.c 0) (.v 3)) (.no (.eq (.v 0) (.c 4)) (.yes (.le (.c 1) (.v 2)) (.yes (.le (.v 2) (.c 65535)) (.yes (.le (.c 2) (.v 0)) (.yes (.le (.v 0) (.c 4)) (.fork (.lt (.c 0) (.v 4)) T3 T6))))))))
def T8 : Pt := (.fork (.lt (.c 2000) (.v 4)) .done T7)
def T9 : Pt := (.fork (.lt (.v 4) (.c 0)) .done T8)
def T10 : Pt := (.fork (.lt (.c 1000) (.v 3)) .done T9)
def T11 : Pt := (.fork (.lt (.v 3) (.c 1)) .done T10)
def T12 : Pt := (.fork (.lt (.c 65535) (.v 2)) .done T11)
def T13 : Pt := (.fork (.lt (.v 2) (.c 1)) .done T12)
def T14 : Pt := (.fork (.lt (.c 3) (.v 1)) .done T13)
def T15 : Pt := (.fork (.lt (.v 1) (.c 2)) .done T14)
def T16 : Pt := (.fork (.lt (.c 3) (.v 0)) .done T15)
def T17 : Pt := (.fork (.lt (.v 0) (.c 2)) .done T16)

theorem o0 (a4 z5 : Int) (h0 : (-9223372036854775808) ≤ a4) (h1 : a4 ≤ 9223372036854775807) (h2 : ¬ a4 < 0) (h3 : ¬ 2000 < a4) (h4 : z5 = a4 + 50) : (a4 + 50 + 9223372036854775808) % 18446744073709551616 - 9223372036854775808 = z5 := by omega
theorem o1 (a3 : Int) (h0 : (-9223372036854775808) ≤ a3) (h1 : a3 ≤ 9223372036854775807) (h2 : ¬ a3 < 1) (h3 : ¬ 1000 < a3) : 0 < a3 := by omega
theorem o2 (a0 : Int) (h0 : (-9223372036854775808) ≤ a0) (h1 : a0 ≤ 9223372036854775807) (h2 : ¬ a0 < 2) (h3 : ¬ 3 < a0) : ¬ a0 = 4 := by omega
theorem o3 (a2 : Int) (h0 : (-9223372036854775808) ≤ a2) (h1 : a2 ≤ 9223372036854775807) (h2 : ¬ a2 < 1) (h3 : ¬ 65535 < a2) : 1 ≤ a2 := by omega
theorem o4 (a2 : Int) (h0 : (-9223372036854775808) ≤ a2) (h1 : a2 ≤ 9223372036854775807) (h2 : ¬ a2 < 1) (h3 : ¬ 65535 < a2) : a2 ≤ 65535 := by omega
theorem o5 (a0 : Int) (h0 : (-9223372036854775808) ≤ a0) (h1 : a0 ≤ 9223372036854775807) (h2 : ¬ a0 < 2) (h3 : ¬ 3 < a0) : 2 ≤ a0 := by omega
theorem o6 (a0 : Int) (h0 : (-9223372036854775808) ≤ a0) (h1 : a0 ≤ 9223372036854775807) (h2 : ¬ a0 < 2) (h3 : ¬ 3 < a0) : a0 ≤ 4 := by omega
theorem o7 (a4 : Int) (h0 : (-9223372036854775808) ≤ a4) (h1 : a4 ≤ 9223372036854775807) (h2 : ¬ a4 < 0) (h3 : ¬ 2000 < a4) (h4 : 0 < a4) : a4 ≤ 1099511627776 := by omega
theorem o8 (a4 z5 : Int) (h0 : (-9223372036854775808) ≤ a4) (h1 : a4 ≤ 9223372036854775807) (h2 : ¬ a4 < 0) (h3 : ¬ 2000 < a4) (h4 : z5 = a4 + 50) (h5 : 0 < a4) : a4 < z5 := by omega
theorem o9 (a1 : Int) (h0 : (-9223372036854775808) ≤ a1) (h1 : a1 ≤ 9223372036854775807) (h2 : ¬ a1 < 2) (h3 : ¬ 3 < a1) : ¬ a1 = 4 := by omega
theorem o10 (a1 : Int) (h0 : (-9223372036854775808) ≤ a1) (h1 : a1 ≤ 9223372036854775807) (h2 : ¬ a1 < 2) (h3 : ¬ 3 < a1) : 2 ≤ a1 := by omega
theorem o11 (a1 : Int) (h0 : (-9223372036854775808) ≤ a1) (h1 : a1 ≤ 9223372036854775807) (h2 : ¬ a1 < 2) (h3 : ¬ 3 < a1) : a1 ≤ 4 := by omega
theorem o12 (a4 z6 : Int) (h0 : (-9223372036854775808) ≤ a4) (h1 : a4 ≤ 9223372036854775807) (h2 : ¬ a4 < 0) (h3 : ¬ 2000 < a4) (h4 : 0 < a4) (h5 : z6 = a4 + 99) : (a4 + 99 + 9223372036854775808) % 18446744073709551616 - 9223372036854775808 = z6 := by omega
theorem o13 (a4 : Int) (h0 : (-9223372036854775808) ≤ a4) (h1 : a4 ≤ 9223372036854775807) (h2 : ¬ a4 < 0) (h3 : ¬ 2000 < a4) (h4 : 0 < a4) : ¬ a4 < a4 := by omega
theorem o14 (a4 z6 : Int) (h0 : (-9223372036854775808) ≤ a4) (h1 : a4 ≤ 9223372036854775807) (h2 : ¬ a4 < 0) (h3 : ¬ 2000 < a4) (h4 : 0 < a4) (h5 : z6 = a4 + 99) : a4 < z6 := by omega
theorem o15 (a0 : Int) (h0 : (-9223372036854775808) ≤ a0) (h1 : a0 ≤ 9223372036854775807) (h2 : ¬ a0 < 2) (h3 : ¬ 3 < a0) : a0 = a0 := by omega
theorem o16 (a2 : Int) (h0 : (-9223372036854775808) ≤ a2) (h1 : a2 ≤ 9223372036854775807) (h2 : ¬ a2 < 1) (h3 : ¬ 65535 < a2) : a2 = a2 := by omega
theorem o17 (a4 z5 : Int) (h0 : (-9223372036854775808) ≤ a4) (h1 : a4 ≤ 9223372036854775807) (h2 : ¬ a4 < 0) (h3 : ¬ 2000 < a4) (h4 : z5 = a4 + 50) (h5 : ¬ 0 < a4) : 0 < z5 := by omega
theorem o18 (a3 a4 : Int) (h0 : (-9223372036854775808) ≤ a3) (h1 : a3 ≤ 9223372036854775807) (h2 : (-9223372036854775808) ≤ a4) (h3 : a4 ≤ 9223372036854775807) (h4 : ¬ a3 < 1) (h5 : ¬ 1000 < a3) (h6 : ¬ a4 < 0) (h7 : ¬ 2000 < a4) (h8 : ¬ 0 < a4) : a4 < a3 := by omega
theorem o19 (a4 : Int) (h0 : (-9223372036854775808) ≤ a4) (h1 : a4 ≤ 9223372036854775807) (h2 : ¬ a4 < 0) (h3 : ¬ 2000 < a4) (h4 : ¬ 0 < a4) : (a4 + 99 + 9223372036854775808) % 18446744073709551616 - 9223372036854775808 = 99 := by omega

theorem t12 (a0 a1 a2 a3 a4 z5 : Int) (l0 : (-9223372036854775808) ≤ a0) (u0 : a0 ≤ 9223372036854775807) (l1 : (-9223372036854775808) ≤ a1) (u1 : a1 ≤ 9223372036854775807) (l2 : (-9223372036854775808) ≤ a2) (u2 : a2 ≤ 9223372036854775807) (l3 : (-9223372036854775808) ≤ a3) (u3 : a3 ≤ 9223372036854775807) (l4 : (-9223372036854775808) ≤ a4) (u4 : a4 ≤ 9223372036854775807) (f0 : ¬ a0 < 2) (f1 : ¬ 3 < a0) (f2 : ¬ a1 < 2) (f3 : ¬ 3 < a1) (f4 : ¬ a2 < 1) (f5 : ¬ 65535 < a2) (f6 : ¬ a3 < 1) (f7 : ¬ 1000 < a3) (f8 : ¬ a4 < 0) (f9 : ¬ 2000 < a4) (e5 : z5 = a4 + 50) (f10 : 0 < a4) (f11 : a4 < a3) : T2.holds [a0, a1, a2, a3, a4, z5] := by
  refine Pt.h_fork (fun (f12 : a0 = a1) => ?_) (fun (f12 : ¬ a0 = a1) => ?_)
  · skip
    refine Pt.h_yes (show a4 < a3 from f11) ?_
    obtain ⟨z6, e6⟩ : ∃ z : Int, z = a4 + 99 := ⟨_, rfl⟩
    refine Pt.h_new (v_add rfl rfl  ((wrap_i64 _).trans (o12 a4 z6 l4 u4 f8 f9 f10 e6))) (show _ = [a0, a1, a2, a3, a4, z5, z6] from rfl) ?_
    refine Pt.h_no (show ¬ a4 < a4 from (o13 a4 l4 u4 f8 f9 f10)) ?_
    refine Pt.h_yes (show a4 < z6 from (o14 a4 z6 l4 u4 f8 f9 f10 e6)) ?_
    refine Pt.h_no (show ¬ a0 = 4 from (o2 a0 l0 u0 f0 f1)) ?_
    refine Pt.h_yes (show 1 ≤ a2 from (o3 a2 l2 u2 f4 f5)) ?_
    refine Pt.h_yes (show a2 ≤ 65535 from (o4 a2 l2 u2 f4 f5)) ?_
    refine Pt.h_yes (show 2 ≤ a0 from (o5 a0 l0 u0 f0 f1)) ?_
    refine Pt.h_yes (show a0 ≤ 4 from (o6 a0 l0 u0 f0 f1)) ?_
    refine Pt.h_no (show ¬ a0 = 4 from (o2 a0 l0 u0 f0 f1)) ?_
    refine Pt.h_yes (show a4 < a3 from f11) ?_
    refine Pt.h_yes (show a0 = a0 from (o15 a0 l0 u0 f0 f1)) ?_
    refine Pt.h_yes (show a2 = a2 from (o16 a2 l2 u2 f4 f5)) ?_
    refine Pt.h_no (show ¬ a4 < a4 from (o13 a4 l4 u4 f8 f9 f10)) ?_
    refine Pt.h_no (show ¬ a0 = 4 from (o2 a0 l0 u0 f0 f1)) ?_
    refine Pt.h_yes (show a4 < z6 from (o14 a4 z6 l4 u4 f8 f9 f10 e6)) ?_
    exact Pt.h_done
  · skip
    refine Pt.h_yes (show a4 < a3 from f11) ?_
    obtain ⟨z6, e6⟩ : ∃ z : Int, z = a4 + 99 := ⟨_, rfl⟩
    refine Pt.h_new (v_add rfl rfl  ((wrap_i64 _).trans (o12 a4 z6 l4 u4 f8 f9 f10 e6))) (show _ = [a0, a1, a2, a3, a4, z5, z6] from rfl) ?_
    refine Pt.h_no (show ¬ a4 < a4 from (o13 a4 l4 u4 f8 f9 f10)) ?_
    refine Pt.h_yes (show a4 < z6 from (o14 a4 z6 l4 u4 f8 f9 f10 e6)) ?_
    refine Pt.h_no (show ¬ a0 = 4 from (o2 a0 l0 u0 f0 f1)) ?_
    refine Pt.h_yes (show 1 ≤ a2 from (o3 a2 l2 u2 f4 f5)) ?_
    refine Pt.h_yes (show a2 ≤ 65535 from (o4 a2 l2 u2 f4 f5)) ?_
    refine Pt.h_yes (show 2 ≤ a0 from (o5 a0 l0 u0 f0 f1)) ?_
    refine Pt.h_yes (show a0 ≤ 4 from (o6 a0 l0 u0 f0 f1)) ?_
    refine Pt.h_no (show ¬ a0 = 4 from (o2 a0 l0 u0 f0 f1)) ?_
    refine Pt.h_yes (show a4 < a3 from f11) ?_
    refine Pt.h_yes (show a0 = a0 from (o15 a0 l0 u0 f0 f1)) ?_
    refine Pt.h_yes (show a2 = a2 from (o16 a2 l2 u2 f4 f5)) ?_
    refine Pt.h_no (show ¬ a4 < a4 from (o13 a4 l4 u4 f8 f9 f10)) ?_
    refine Pt.h_no (show ¬ a0 = 4 from (o2 a0 l0 u0 f0 f1)) ?_
    refine Pt.h_yes (show a4 < z6 from (o14 a4 z6 l4 u4 f8 f9 f10 e6)) ?_
    exact Pt.h_done

theorem t11 (a0 a1 a2 a3 a4 z5 : Int) (l0 : (-9223372036854775808) ≤ a0) (u0 : a0 ≤ 9223372036854775807) (l1 : (-9223372036854775808) ≤ a1) (u1 : a1 ≤ 9223372036854775807) (l2 : (-9223372036854775808) ≤ a2) (u2 : a2 ≤ 9223372036854775807) (l3 : (-9223372036854775808) ≤ a3) (u3 : a3 ≤ 9223372036854775807) (l4 : (-9223372036854775808) ≤ a4) (u4 : a4 ≤ 9223372036854775807) (f0 : ¬ a0 < 2) (f1 : ¬ 3 < a0) (f2 : ¬ a1 < 2) (f3 : ¬ 3 < a1) (f4 : ¬ a2 < 1) (f5 : ¬ 65535 < a2) (f6 : ¬ a3 < 1) (f7 : ¬ 1000 < a3) (f8 : ¬ a4 < 0) (f9 : ¬ 2000 < a4) (e5 : z5 = a4 + 50) (f10 : 0 < a4) : T3.holds [a0, a1, a2, a3, a4, z5] := by
  refine Pt.h_yes (show a4 ≤ 1099511627776 from (o7 a4 l4 u4 f8 f9 f10)) ?_
  refine Pt.h_yes (show a4 < z5 from (o8 a4 z5 l4 u4 f8 f9 e5 f10)) ?_
  refine Pt.h_no (show ¬ a1 = 4 from (o9 a1 l1 u1 f2 f3)) ?_
  refine Pt.h_yes (show 1 ≤ a2 from (o3 a2 l2 u2 f4 f5)) ?_
  refine Pt.h_yes (show a2 ≤ 65535 from (o4 a2 l2 u2 f4 f5)) ?_
  refine Pt.h_yes (show 2 ≤ a1 from (o10 a1 l1 u1 f2 f3)) ?_
  refine Pt.h_yes (show a1 ≤ 4 from (o11 a1 l1 u1 f2 f3)) ?_
  refine Pt.h_no (show ¬ a0 = 4 from (o2 a0 l0 u0 f0 f1)) ?_
  refine Pt.h_fork (fun (f11 : a4 < a3) => ?_) (fun (f11 : ¬ a4 < a3) => ?_)
  · skip
    exact t12 a0 a1 a2 a3 a4 z5 l0 u0 l1 u1 l2 u2 l3 u3 l4 u4 f0 f1 f2 f3 f4 f5 f6 f7 f8 f9 e5 f10 f11
  · skip
    refine Pt.h_no (show ¬ a0 = 4 from (o2 a0 l0 u0 f0 f1)) ?_
    refine Pt.h_no (show ¬ a4 < a3 from f11) ?_
    refine Pt.h_no (show ¬ a4 < a3 from f11) ?_
    refine Pt.h_no (show ¬ a4 < a4 from (o13 a4 l4 u4 f8 f9 f10)) ?_
    refine Pt.h_no (show ¬ a1 = 4 from (o9 a1 l1 u1 f2 f3)) ?_
    refine Pt.h_yes (show a4 < z5 from (o8 a4 z5 l4 u4 f8 f9 e5 f10)) ?_
    exact Pt.h_done

theorem t13 (a0 a1 a2 a3 a4 z5 : Int) (l0 : (-9223372036854775808) ≤ a0) (u0 : a0 ≤ 9223372036854775807) (l1 : (-9223372036854775808) ≤ a1) (u1 : a1 ≤ 9223372036854775807) (l2 : (-9223372036854775808) ≤ a2) (u2 : a2 ≤ 9223372036854775807) (l3 : (-9223372036854775808) ≤ a3) (u3 : a3 ≤ 9223372036854775807) (l4 : (-9223372036854775808) ≤ a4) (u4 : a4 ≤ 9223372036854775807) (f0 : ¬ a0 < 2) (f1 : ¬ 3 < a0) (f2 : ¬ a1 < 2) (f3 : ¬ 3 < a1) (f4 : ¬ a2 < 1) (f5 : ¬ 65535 < a2) (f6 : ¬ a3 < 1) (f7 : ¬ 1000 < a3) (f8 : ¬ a4 < 0) (f9 : ¬ 2000 < a4) (e5 : z5 = a4 + 50) (f10 : ¬ 0 < a4) : T6.holds [a0, a1, a2, a3, a4, z5] := by
  refine Pt.h_yes (show 0 < z5 from (o17 a4 z5 l4 u4 f8 f9 e5 f10)) ?_
  refine Pt.h_no (show ¬ a1 = 4 from (o9 a1 l1 u1 f2 f3)) ?_
  refine Pt.h_yes (show 1 ≤ a2 from (o3 a2 l2 u2 f4 f5)) ?_
  refine Pt.h_yes (show a2 ≤ 65535 from (o4 a2 l2 u2 f4 f5)) ?_
  refine Pt.h_yes (show 2 ≤ a1 from (o10 a1 l1 u1 f2 f3)) ?_
  refine Pt.h_yes (show a1 ≤ 4 from (o11 a1 l1 u1 f2 f3)) ?_
  refine Pt.h_no (show ¬ a0 = 4 from (o2 a0 l0 u0 f0 f1)) ?_
  refine Pt.h_yes (show 0 < a3 from (o1 a3 l3 u3 f6 f7)) ?_
  refine Pt.h_fork (fun (f11 : a0 = a1) => ?_) (fun (f11 : ¬ a0 = a1) => ?_)
  · skip
    refine Pt.h_yes (show a4 < a3 from (o18 a3 a4 l3 u3 l4 u4 f6 f7 f8 f9 f10)) ?_
    refine Pt.h_is (v_add rfl rfl  ((wrap_i64 _).trans (o19 a4 l4 u4 f8 f9 f10))) ?_
    refine Pt.h_no (show ¬ 0 < a4 from f10) ?_
    refine Pt.h_no (show ¬ a0 = 4 from (o2 a0 l0 u0 f0 f1)) ?_
    refine Pt.h_yes (show 1 ≤ a2 from (o3 a2 l2 u2 f4 f5)) ?_
    refine Pt.h_yes (show a2 ≤ 65535 from (o4 a2 l2 u2 f4 f5)) ?_
    refine Pt.h_yes (show 2 ≤ a0 from (o5 a0 l0 u0 f0 f1)) ?_
    refine Pt.h_yes (show a0 ≤ 4 from (o6 a0 l0 u0 f0 f1)) ?_
    refine Pt.h_no (show ¬ a0 = 4 from (o2 a0 l0 u0 f0 f1)) ?_
    refine Pt.h_yes (show 0 < a3 from (o1 a3 l3 u3 f6 f7)) ?_
    refine Pt.h_yes (show a0 = a0 from (o15 a0 l0 u0 f0 f1)) ?_
    refine Pt.h_yes (show a2 = a2 from (o16 a2 l2 u2 f4 f5)) ?_
    refine Pt.h_no (show ¬ 0 < a4 from f10) ?_
    refine Pt.h_no (show ¬ a0 = 4 from (o2 a0 l0 u0 f0 f1)) ?_
    exact Pt.h_done
  · skip
    refine Pt.h_yes (show a4 < a3 from (o18 a3 a4 l3 u3 l4 u4 f6 f7 f8 f9 f10)) ?_
    refine Pt.h_is (v_add rfl rfl  ((wrap_i64 _).trans (o19 a4 l4 u4 f8 f9 f10))) ?_
    refine Pt.h_no (show ¬ 0 < a4 from f10) ?_
    refine Pt.h_no (show ¬ a0 = 4 from (o2 a0 l0 u0 f0 f1)) ?_
    refine Pt.h_yes (show 1 ≤ a2 from (o3 a2 l2 u2 f4 f5)) ?_
    refine Pt.h_yes (show a2 ≤ 65535 from (o4 a2 l2 u2 f4 f5)) ?_
    refine Pt.h_yes (show 2 ≤ a0 from (o5 a0 l0 u0 f0 f1)) ?_
    refine Pt.h_yes (show a0 ≤ 4 from (o6 a0 l0 u0 f0 f1)) ?_
    refine Pt.h_no (show ¬ a0 = 4 from (o2 a0 l0 u0 f0 f1)) ?_
    refine Pt.h_yes (show 0 < a3 from (o1 a3 l3 u3 f6 f7)) ?_
    refine Pt.h_yes (show a0 = a0 from (o15 a0 l0 u0 f0 f1)) ?_
    refine Pt.h_yes (show a2 = a2 from (o16 a2 l2 u2 f4 f5)) ?_
    refine Pt.h_no (show ¬ 0 < a4 from f10) ?_
    refine Pt.h_no (show ¬ a0 = 4 from (o2 a0 l0 u0 f0 f1)) ?_
    exact Pt.h_done

theorem t10 (a0 a1 a2 a3 a4 : Int) (l0 : (-9223372036854775808) ≤ a0) (u0 : a0 ≤ 9223372036854775807) (l1 : (-9223372036854775808) ≤ a1) (u1 : a1 ≤ 9223372036854775807) (l2 : (-9223372036854775808) ≤ a2) (u2 : a2 ≤ 9223372036854775807) (l3 : (-9223372036854775808) ≤ a3) (u3 : a3 ≤ 9223372036854775807) (l4 : (-9223372036854775808) ≤ a4) (u4 : a4 ≤ 9223372036854775807) (f0 : ¬ a0 < 2) (f1 : ¬ 3 < a0) (f2 : ¬ a1 < 2) (f3 : ¬ 3 < a1) (f4 : ¬ a2 < 1) (f5 : ¬ 65535 < a2) (f6 : ¬ a3 < 1) (f7 : ¬ 1000 < a3) (f8 : ¬ a4 < 0) (f9 : ¬ 2000 < a4) : T7.holds [a0, a1, a2, a3, a4] := by
  obtain ⟨z5, e5⟩ : ∃ z : Int, z = a4 + 50 := ⟨_, rfl⟩
  refine Pt.h_new (v_add rfl rfl  ((wrap_i64 _).trans (o0 a4 z5 l4 u4 f8 f9 e5))) (show _ = [a0, a1, a2, a3, a4, z5] from rfl) ?_
  refine Pt.h_yes (show 0 < a3 from (o1 a3 l3 u3 f6 f7)) ?_
  refine Pt.h_no (show ¬ a0 = 4 from (o2 a0 l0 u0 f0 f1)) ?_
  refine Pt.h_yes (show 1 ≤ a2 from (o3 a2 l2 u2 f4 f5)) ?_
  refine Pt.h_yes (show a2 ≤ 65535 from (o4 a2 l2 u2 f4 f5)) ?_
  refine Pt.h_yes (show 2 ≤ a0 from (o5 a0 l0 u0 f0 f1)) ?_
  refine Pt.h_yes (show a0 ≤ 4 from (o6 a0 l0 u0 f0 f1)) ?_
  refine Pt.h_fork (fun (f10 : 0 < a4) => ?_) (fun (f10 : ¬ 0 < a4) => ?_)
  · skip
    exact t11 a0 a1 a2 a3 a4 z5 l0 u0 l1 u1 l2 u2 l3 u3 l4 u4 f0 f1 f2 f3 f4 f5 f6 f7 f8 f9 e5 f10
  · skip
    exact t13 a0 a1 a2 a3 a4 z5 l0 u0 l1 u1 l2 u2 l3 u3 l4 u4 f0 f1 f2 f3 f4 f5 f6 f7 f8 f9 e5 f10

theorem t9 (a0 a1 a2 a3 a4 : Int) (l0 : (-9223372036854775808) ≤ a0) (u0 : a0 ≤ 9223372036854775807) (l1 : (-9223372036854775808) ≤ a1) (u1 : a1 ≤ 9223372036854775807) (l2 : (-9223372036854775808) ≤ a2) (u2 : a2 ≤ 9223372036854775807) (l3 : (-9223372036854775808) ≤ a3) (u3 : a3 ≤ 9223372036854775807) (l4 : (-9223372036854775808) ≤ a4) (u4 : a4 ≤ 9223372036854775807) (f0 : ¬ a0 < 2) (f1 : ¬ 3 < a0) (f2 : ¬ a1 < 2) (f3 : ¬ 3 < a1) (f4 : ¬ a2 < 1) (f5 : ¬ 65535 < a2) (f6 : ¬ a3 < 1) (f7 : ¬ 1000 < a3) (f8 : ¬ a4 < 0) : T8.holds [a0, a1, a2, a3, a4] := by
  refine Pt.h_fork (fun (f9 : 2000 < a4) => ?_) (fun (f9 : ¬ 2000 < a4) => ?_)
  · skip
    exact Pt.h_done
  · skip
    exact t10 a0 a1 a2 a3 a4 l0 u0 l1 u1 l2 u2 l3 u3 l4 u4 f0 f1 f2 f3 f4 f5 f6 f7 f8 f9

theorem t8 (a0 a1 a2 a3 a4 : Int) (l0 : (-9223372036854775808) ≤ a0) (u0 : a0 ≤ 9223372036854775807) (l1 : (-9223372036854775808) ≤ a1) (u1 : a1 ≤ 9223372036854775807) (l2 : (-9223372036854775808) ≤ a2) (u2 : a2 ≤ 9223372036854775807) (l3 : (-9223372036854775808) ≤ a3) (u3 : a3 ≤ 9223372036854775807) (l4 : (-9223372036854775808) ≤ a4) (u4 : a4 ≤ 9223372036854775807) (f0 : ¬ a0 < 2) (f1 : ¬ 3 < a0) (f2 : ¬ a1 < 2) (f3 : ¬ 3 < a1) (f4 : ¬ a2 < 1) (f5 : ¬ 65535 < a2) (f6 : ¬ a3 < 1) (f7 : ¬ 1000 < a3) : T9.holds [a0, a1, a2, a3, a4] := by
  refine Pt.h_fork (fun (f8 : a4 < 0) => ?_) (fun (f8 : ¬ a4 < 0) => ?_)
  · skip
    exact Pt.h_done
  · skip
    exact t9 a0 a1 a2 a3 a4 l0 u0 l1 u1 l2 u2 l3 u3 l4 u4 f0 f1 f2 f3 f4 f5 f6 f7 f8

theorem t7 (a0 a1 a2 a3 a4 : Int) (l0 : (-9223372036854775808) ≤ a0) (u0 : a0 ≤ 9223372036854775807) (l1 : (-9223372036854775808) ≤ a1) (u1 : a1 ≤ 9223372036854775807) (l2 : (-9223372036854775808) ≤ a2) (u2 : a2 ≤ 9223372036854775807) (l3 : (-9223372036854775808) ≤ a3) (u3 : a3 ≤ 9223372036854775807) (l4 : (-9223372036854775808) ≤ a4) (u4 : a4 ≤ 9223372036854775807) (f0 : ¬ a0 < 2) (f1 : ¬ 3 < a0) (f2 : ¬ a1 < 2) (f3 : ¬ 3 < a1) (f4 : ¬ a2 < 1) (f5 : ¬ 65535 < a2) (f6 : ¬ a3 < 1) : T10.holds [a0, a1, a2, a3, a4] := by
  refine Pt.h_fork (fun (f7 : 1000 < a3) => ?_) (fun (f7 : ¬ 1000 < a3) => ?_)
  · skip
    exact Pt.h_done
  · skip
    exact t8 a0 a1 a2 a3 a4 l0 u0 l1 u1 l2 u2 l3 u3 l4 u4 f0 f1 f2 f3 f4 f5 f6 f7

theorem t6 (a0 a1 a2 a3 a4 : Int) (l0 : (-9223372036854775808) ≤ a0) (u0 : a0 ≤ 9223372036854775807) (l1 : (-9223372036854775808) ≤ a1) (u1 : a1 ≤ 9223372036854775807) (l2 : (-9223372036854775808) ≤ a2) (u2 : a2 ≤ 9223372036854775807) (l3 : (-9223372036854775808) ≤ a3) (u3 : a3 ≤ 9223372036854775807) (l4 : (-9223372036854775808) ≤ a4) (u4 : a4 ≤ 9223372036854775807) (f0 : ¬ a0 < 2) (f1 : ¬ 3 < a0) (f2 : ¬ a1 < 2) (f3 : ¬ 3 < a1) (f4 : ¬ a2 < 1) (f5 : ¬ 65535 < a2) : T11.holds [a0, a1, a2, a3, a4] := by
  refine Pt.h_fork (fun (f6 : a3 < 1) => ?_) (fun (f6 : ¬ a3 < 1) => ?_)
  · skip
    exact Pt.h_done
  · skip
    exact t7 a0 a1 a2 a3 a4 l0 u0 l1 u1 l2 u2 l3 u3 l4 u4 f0 f1 f2 f3 f4 f5 f6

theorem t5 (a0 a1 a2 a3 a4 : Int) (l0 : (-9223372036854775808) ≤ a0) (u0 : a0 ≤ 9223372036854775807) (l1 : (-9223372036854775808) ≤ a1) (u1 : a1 ≤ 9223372036854775807) (l2 : (-9223372036854775808) ≤ a2) (u2 : a2 ≤ 9223372036854775807) (l3 : (-9223372036854775808) ≤ a3) (u3 : a3 ≤ 9223372036854775807) (l4 : (-9223372036854775808) ≤ a4) (u4 : a4 ≤ 9223372036854775807) (f0 : ¬ a0 < 2) (f1 : ¬ 3 < a0) (f2 : ¬ a1 < 2) (f3 : ¬ 3 < a1) (f4 : ¬ a2 < 1) : T12.holds [a0, a1, a2, a3, a4] := by
  refine Pt.h_fork (fun (f5 : 65535 < a2) => ?_) (fun (f5 : ¬ 65535 < a2) => ?_)
  · skip
    exact Pt.h_done
  · skip
    exact t6 a0 a1 a2 a3 a4 l0 u0 l1 u1 l2 u2 l3 u3 l4 u4 f0 f1 f2 f3 f4 f5

theorem t4 (a0 a1 a2 a3 a4 : Int) (l0 : (-9223372036854775808) ≤ a0) (u0 : a0 ≤ 9223372036854775807) (l1 : (-9223372036854775808) ≤ a1) (u1 : a1 ≤ 9223372036854775807) (l2 : (-9223372036854775808) ≤ a2) (u2 : a2 ≤ 9223372036854775807) (l3 : (-9223372036854775808) ≤ a3) (u3 : a3 ≤ 9223372036854775807) (l4 : (-9223372036854775808) ≤ a4) (u4 : a4 ≤ 9223372036854775807) (f0 : ¬ a0 < 2) (f1 : ¬ 3 < a0) (f2 : ¬ a1 < 2) (f3 : ¬ 3 < a1) : T13.holds [a0, a1, a2, a3, a4] := by
  refine Pt.h_fork (fun (f4 : a2 < 1) => ?_) (fun (f4 : ¬ a2 < 1) => ?_)
  · skip
    exact Pt.h_done
  · skip
    exact t5 a0 a1 a2 a3 a4 l0 u0 l1 u1 l2 u2 l3 u3 l4 u4 f0 f1 f2 f3 f4

theorem t3 (a0 a1 a2 a3 a4 : Int) (l0 : (-9223372036854775808) ≤ a0) (u0 : a0 ≤ 9223372036854775807) (l1 : (-9223372036854775808) ≤ a1) (u1 : a1 ≤ 9223372036854775807) (l2 : (-9223372036854775808) ≤ a2) (u2 : a2 ≤ 9223372036854775807) (l3 : (-9223372036854775808) ≤ a3) (u3 : a3 ≤ 9223372036854775807) (l4 : (-9223372036854775808) ≤ a4) (u4 : a4 ≤ 9223372036854775807) (f0 : ¬ a0 < 2) (f1 : ¬ 3 < a0) (f2 : ¬ a1 < 2) : T14.holds [a0, a1, a2, a3, a4] := by
  refine Pt.h_fork (fun (f3 : 3 < a1) => ?_) (fun (f3 : ¬ 3 < a1) => ?_)
  · skip
    exact Pt.h_done
  · skip
    exact t4 a0 a1 a2 a3 a4 l0 u0 l1 u1 l2 u2 l3 u3 l4 u4 f0 f1 f2 f3

theorem t2 (a0 a1 a2 a3 a4 : Int) (l0 : (-9223372036854775808) ≤ a0) (u0 : a0 ≤ 9223372036854775807) (l1 : (-9223372036854775808) ≤ a1) (u1 : a1 ≤ 9223372036854775807) (l2 : (-9223372036854775808) ≤ a2) (u2 : a2 ≤ 9223372036854775807) (l3 : (-9223372036854775808) ≤ a3) (u3 : a3 ≤ 9223372036854775807) (l4 : (-9223372036854775808) ≤ a4) (u4 : a4 ≤ 9223372036854775807) (f0 : ¬ a0 < 2) (f1 : ¬ 3 < a0) : T15.holds [a0, a1, a2, a3, a4] := by
  refine Pt.h_fork (fun (f2 : a1 < 2) => ?_) (fun (f2 : ¬ a1 < 2) => ?_)
  · skip
    exact Pt.h_done
  · skip
    exact t3 a0 a1 a2 a3 a4 l0 u0 l1 u1 l2 u2 l3 u3 l4 u4 f0 f1 f2

theorem t1 (a0 a1 a2 a3 a4 : Int) (l0 : (-9223372036854775808) ≤ a0) (u0 : a0 ≤ 9223372036854775807) (l1 : (-9223372036854775808) ≤ a1) (u1 : a1 ≤ 9223372036854775807) (l2 : (-9223372036854775808) ≤ a2) (u2 : a2 ≤ 9223372036854775807) (l3 : (-9223372036854775808) ≤ a3) (u3 : a3 ≤ 9223372036854775807) (l4 : (-9223372036854775808) ≤ a4) (u4 : a4 ≤ 9223372036854775807) (f0 : ¬ a0 < 2) : T16.holds [a0, a1, a2, a3, a4] := by
  refine Pt.h_fork (fun (f1 : 3 < a0) => ?_) (fun (f1 : ¬ 3 < a0) => ?_)
  · skip
    exact Pt.h_done
  · skip
    exact t2 a0 a1 a2 a3 a4 l0 u0 l1 u1 l2 u2 l3 u3 l4 u4 f0 f1

theorem t0 (a0 a1 a2 a3 a4 : Int) (l0 : (-9223372036854775808) ≤ a0) (u0 : a0 ≤ 9223372036854775807) (l1 : (-9223372036854775808) ≤ a1) (u1 : a1 ≤ 9223372036854775807) (l2 : (-9223372036854775808) ≤ a2) (u2 : a2 ≤ 9223372036854775807) (l3 : (-9223372036854775808) ≤ a3) (u3 : a3 ≤ 9223372036854775807) (l4 : (-9223372036854775808) ≤ a4) (u4 : a4 ≤ 9223372036854775807) : T17.holds [a0, a1, a2, a3, a4] := by
  refine Pt.h_fork (fun (f0 : a0 < 2) => ?_) (fun (f0 : ¬ a0 < 2) => ?_)
  · skip
    exact Pt.h_done
  · skip
    exact t1 a0 a1 a2 a3 a4 l0 u0 l1 u1 l2 u2 l3 u3 l4 u4 f0

end Go.Proofs.Ytfkbofbdonmpfaa.portsTaken
