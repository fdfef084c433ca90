/- NearAsks: what its run asks, and that it holds. -/
import Derived.Test.YthmnfjaogoennaaSy11
set_option linter.unusedSimpArgs false
set_option linter.unusedVariables false
set_option linter.unusedSectionVars false
set_option linter.unnecessarySimpa false
namespace Go.Proofs.Ythmnfjaogoennaa.nearAsks
open Go.Am

def T0 : Pt := (.fork (.le (.c 19) (.v 0)) (.fork (.le (.c 20) (.v 0)) (.no (.le (.c 21) (.v 0)) (.no (.lt (.c 20) (.v 0)) (.yes (.le (.c 3) (.v 0)) .done))) (.no (.lt (.c 19) (.v 0)) (.yes (.le (.c 3) (.v 0)) .done))) (.no (.lt (.c 18) (.v 0)) (.yes (.le (.c 3) (.v 0)) .done)))
def T1 : Pt := (.fork (.le (.c 18) (.v 0)) T0 (.no (.lt (.c 17) (.v 0)) (.yes (.le (.c 3) (.v 0)) .done)))
def T2 : Pt := (.fork (.le (.c 17) (.v 0)) T1 (.no (.lt (.c 16) (.v 0)) (.yes (.le (.c 3) (.v 0)) .done)))
def T3 : Pt := (.fork (.le (.c 16) (.v 0)) T2 (.no (.lt (.c 15) (.v 0)) (.yes (.le (.c 3) (.v 0)) .done)))
def T4 : Pt := (.fork (.le (.c 15) (.v 0)) T3 (.no (.lt (.c 14) (.v 0)) (.yes (.le (.c 3) (.v 0)) .done)))
def T5 : Pt := (.fork (.le (.c 14) (.v 0)) T4 (.no (.lt (.c 13) (.v 0)) (.yes (.le (.c 3) (.v 0)) .done)))
def T6 : Pt := (.fork (.le (.c 13) (.v 0)) T5 (.no (.lt (.c 12) (.v 0)) (.yes (.le (.c 3) (.v 0)) .done)))
def T7 : Pt := (.fork (.le (.c 12) (.v 0)) T6 (.no (.lt (.c 11) (.v 0)) (.yes (.le (.c 3) (.v 0)) .done)))
def T8 : Pt := (.fork (.le (.c 11) (.v 0)) T7 (.no (.lt (.c 10) (.v 0)) (.yes (.le (.c 3) (.v 0)) .done)))
def T9 : Pt := (.fork (.le (.c 10) (.v 0)) T8 (.no (.lt (.c 9) (.v 0)) (.yes (.le (.c 3) (.v 0)) .done)))
def T10 : Pt := (.fork (.le (.c 9) (.v 0)) T9 (.no (.lt (.c 8) (.v 0)) (.yes (.le (.c 3) (.v 0)) .done)))
def T11 : Pt := (.fork (.le (.c 8) (.v 0)) T10 (.no (.lt (.c 7) (.v 0)) (.yes (.le (.c 3) (.v 0)) .done)))
def T12 : Pt := (.fork (.le (.c 7) (.v 0)) T11 (.no (.lt (.c 6) (.v 0)) (.yes (.le (.c 3) (.v 0)) .done)))
def T13 : Pt := (.fork (.le (.c 6) (.v 0)) T12 (.no (.lt (.c 5) (.v 0)) (.yes (.le (.c 3) (.v 0)) .done)))
def T14 : Pt := (.fork (.le (.c 5) (.v 0)) T13 (.no (.lt (.c 4) (.v 0)) (.yes (.le (.c 3) (.v 0)) .done)))
def T15 : Pt := (.fork (.le (.c 4) (.v 0)) T14 (.no (.lt (.c 3) (.v 0)) (.yes (.le (.c 3) (.v 0)) .done)))
def T16 : Pt := (.fork (.le (.c 3) (.v 0)) T15 (.no (.lt (.c 2) (.v 0)) (.no (.le (.c 3) (.v 0)) (.is (.ib .add .i64 (.c 1) (.v 0)) (.c 3) .done))))
def T17 : Pt := (.fork (.le (.c 2) (.v 0)) T16 (.no (.lt (.c 1) (.v 0)) (.no (.le (.c 3) (.v 0)) (.is (.ib .add .i64 (.c 1) (.v 0)) (.c 2) .done))))
def T18 : Pt := (.fork (.le (.c 1) (.v 0)) T17 (.no (.lt (.c 0) (.v 0)) (.no (.le (.c 3) (.v 0)) (.is (.ib .add .i64 (.c 1) (.v 0)) (.c 1) .done))))
def T19 : Pt := (.fork (.lt (.c 20) (.v 0)) .done T18)
def T20 : Pt := (.fork (.lt (.v 0) (.c 0)) .done T19)

theorem o0 (a0 : Int) (h0 : (-9223372036854775808) ≤ a0) (h1 : a0 ≤ 9223372036854775807) (h2 : ¬ a0 < (0 : Int)) (h3 : ¬ (20 : Int) < a0) (h4 : (1 : Int) ≤ a0) (h5 : (2 : Int) ≤ a0) (h6 : (3 : Int) ≤ a0) (h7 : (4 : Int) ≤ a0) (h8 : (5 : Int) ≤ a0) (h9 : (6 : Int) ≤ a0) (h10 : (7 : Int) ≤ a0) (h11 : (8 : Int) ≤ a0) (h12 : (9 : Int) ≤ a0) (h13 : (10 : Int) ≤ a0) (h14 : (11 : Int) ≤ a0) (h15 : (12 : Int) ≤ a0) (h16 : (13 : Int) ≤ a0) (h17 : (14 : Int) ≤ a0) (h18 : (15 : Int) ≤ a0) (h19 : (16 : Int) ≤ a0) (h20 : (17 : Int) ≤ a0) (h21 : (18 : Int) ≤ a0) (h22 : (19 : Int) ≤ a0) (h23 : (20 : Int) ≤ a0) : ¬ (21 : Int) ≤ a0 := by omega
theorem o1 (a0 : Int) (h0 : (-9223372036854775808) ≤ a0) (h1 : a0 ≤ 9223372036854775807) (h2 : ¬ a0 < (0 : Int)) (h3 : ¬ (20 : Int) < a0) (h4 : (1 : Int) ≤ a0) (h5 : (2 : Int) ≤ a0) (h6 : (3 : Int) ≤ a0) (h7 : (4 : Int) ≤ a0) (h8 : (5 : Int) ≤ a0) (h9 : (6 : Int) ≤ a0) (h10 : (7 : Int) ≤ a0) (h11 : (8 : Int) ≤ a0) (h12 : (9 : Int) ≤ a0) (h13 : (10 : Int) ≤ a0) (h14 : (11 : Int) ≤ a0) (h15 : (12 : Int) ≤ a0) (h16 : (13 : Int) ≤ a0) (h17 : (14 : Int) ≤ a0) (h18 : (15 : Int) ≤ a0) (h19 : (16 : Int) ≤ a0) (h20 : (17 : Int) ≤ a0) (h21 : (18 : Int) ≤ a0) (h22 : (19 : Int) ≤ a0) (h23 : ¬ (20 : Int) ≤ a0) : ¬ (19 : Int) < a0 := by omega
theorem o2 (a0 : Int) (h0 : (-9223372036854775808) ≤ a0) (h1 : a0 ≤ 9223372036854775807) (h2 : ¬ a0 < (0 : Int)) (h3 : ¬ (20 : Int) < a0) (h4 : (1 : Int) ≤ a0) (h5 : (2 : Int) ≤ a0) (h6 : (3 : Int) ≤ a0) (h7 : (4 : Int) ≤ a0) (h8 : (5 : Int) ≤ a0) (h9 : (6 : Int) ≤ a0) (h10 : (7 : Int) ≤ a0) (h11 : (8 : Int) ≤ a0) (h12 : (9 : Int) ≤ a0) (h13 : (10 : Int) ≤ a0) (h14 : (11 : Int) ≤ a0) (h15 : (12 : Int) ≤ a0) (h16 : (13 : Int) ≤ a0) (h17 : (14 : Int) ≤ a0) (h18 : (15 : Int) ≤ a0) (h19 : (16 : Int) ≤ a0) (h20 : (17 : Int) ≤ a0) (h21 : (18 : Int) ≤ a0) (h22 : ¬ (19 : Int) ≤ a0) : ¬ (18 : Int) < a0 := by omega
theorem o3 (a0 : Int) (h0 : (-9223372036854775808) ≤ a0) (h1 : a0 ≤ 9223372036854775807) (h2 : ¬ a0 < (0 : Int)) (h3 : ¬ (20 : Int) < a0) (h4 : (1 : Int) ≤ a0) (h5 : (2 : Int) ≤ a0) (h6 : (3 : Int) ≤ a0) (h7 : (4 : Int) ≤ a0) (h8 : (5 : Int) ≤ a0) (h9 : (6 : Int) ≤ a0) (h10 : (7 : Int) ≤ a0) (h11 : (8 : Int) ≤ a0) (h12 : (9 : Int) ≤ a0) (h13 : (10 : Int) ≤ a0) (h14 : (11 : Int) ≤ a0) (h15 : (12 : Int) ≤ a0) (h16 : (13 : Int) ≤ a0) (h17 : (14 : Int) ≤ a0) (h18 : (15 : Int) ≤ a0) (h19 : (16 : Int) ≤ a0) (h20 : (17 : Int) ≤ a0) (h21 : ¬ (18 : Int) ≤ a0) : ¬ (17 : Int) < a0 := by omega
theorem o4 (a0 : Int) (h0 : (-9223372036854775808) ≤ a0) (h1 : a0 ≤ 9223372036854775807) (h2 : ¬ a0 < (0 : Int)) (h3 : ¬ (20 : Int) < a0) (h4 : (1 : Int) ≤ a0) (h5 : (2 : Int) ≤ a0) (h6 : (3 : Int) ≤ a0) (h7 : (4 : Int) ≤ a0) (h8 : (5 : Int) ≤ a0) (h9 : (6 : Int) ≤ a0) (h10 : (7 : Int) ≤ a0) (h11 : (8 : Int) ≤ a0) (h12 : (9 : Int) ≤ a0) (h13 : (10 : Int) ≤ a0) (h14 : (11 : Int) ≤ a0) (h15 : (12 : Int) ≤ a0) (h16 : (13 : Int) ≤ a0) (h17 : (14 : Int) ≤ a0) (h18 : (15 : Int) ≤ a0) (h19 : (16 : Int) ≤ a0) (h20 : ¬ (17 : Int) ≤ a0) : ¬ (16 : Int) < a0 := by omega
theorem o5 (a0 : Int) (h0 : (-9223372036854775808) ≤ a0) (h1 : a0 ≤ 9223372036854775807) (h2 : ¬ a0 < (0 : Int)) (h3 : ¬ (20 : Int) < a0) (h4 : (1 : Int) ≤ a0) (h5 : (2 : Int) ≤ a0) (h6 : (3 : Int) ≤ a0) (h7 : (4 : Int) ≤ a0) (h8 : (5 : Int) ≤ a0) (h9 : (6 : Int) ≤ a0) (h10 : (7 : Int) ≤ a0) (h11 : (8 : Int) ≤ a0) (h12 : (9 : Int) ≤ a0) (h13 : (10 : Int) ≤ a0) (h14 : (11 : Int) ≤ a0) (h15 : (12 : Int) ≤ a0) (h16 : (13 : Int) ≤ a0) (h17 : (14 : Int) ≤ a0) (h18 : (15 : Int) ≤ a0) (h19 : ¬ (16 : Int) ≤ a0) : ¬ (15 : Int) < a0 := by omega
theorem o6 (a0 : Int) (h0 : (-9223372036854775808) ≤ a0) (h1 : a0 ≤ 9223372036854775807) (h2 : ¬ a0 < (0 : Int)) (h3 : ¬ (20 : Int) < a0) (h4 : (1 : Int) ≤ a0) (h5 : (2 : Int) ≤ a0) (h6 : (3 : Int) ≤ a0) (h7 : (4 : Int) ≤ a0) (h8 : (5 : Int) ≤ a0) (h9 : (6 : Int) ≤ a0) (h10 : (7 : Int) ≤ a0) (h11 : (8 : Int) ≤ a0) (h12 : (9 : Int) ≤ a0) (h13 : (10 : Int) ≤ a0) (h14 : (11 : Int) ≤ a0) (h15 : (12 : Int) ≤ a0) (h16 : (13 : Int) ≤ a0) (h17 : (14 : Int) ≤ a0) (h18 : ¬ (15 : Int) ≤ a0) : ¬ (14 : Int) < a0 := by omega
theorem o7 (a0 : Int) (h0 : (-9223372036854775808) ≤ a0) (h1 : a0 ≤ 9223372036854775807) (h2 : ¬ a0 < (0 : Int)) (h3 : ¬ (20 : Int) < a0) (h4 : (1 : Int) ≤ a0) (h5 : (2 : Int) ≤ a0) (h6 : (3 : Int) ≤ a0) (h7 : (4 : Int) ≤ a0) (h8 : (5 : Int) ≤ a0) (h9 : (6 : Int) ≤ a0) (h10 : (7 : Int) ≤ a0) (h11 : (8 : Int) ≤ a0) (h12 : (9 : Int) ≤ a0) (h13 : (10 : Int) ≤ a0) (h14 : (11 : Int) ≤ a0) (h15 : (12 : Int) ≤ a0) (h16 : (13 : Int) ≤ a0) (h17 : ¬ (14 : Int) ≤ a0) : ¬ (13 : Int) < a0 := by omega
theorem o8 (a0 : Int) (h0 : (-9223372036854775808) ≤ a0) (h1 : a0 ≤ 9223372036854775807) (h2 : ¬ a0 < (0 : Int)) (h3 : ¬ (20 : Int) < a0) (h4 : (1 : Int) ≤ a0) (h5 : (2 : Int) ≤ a0) (h6 : (3 : Int) ≤ a0) (h7 : (4 : Int) ≤ a0) (h8 : (5 : Int) ≤ a0) (h9 : (6 : Int) ≤ a0) (h10 : (7 : Int) ≤ a0) (h11 : (8 : Int) ≤ a0) (h12 : (9 : Int) ≤ a0) (h13 : (10 : Int) ≤ a0) (h14 : (11 : Int) ≤ a0) (h15 : (12 : Int) ≤ a0) (h16 : ¬ (13 : Int) ≤ a0) : ¬ (12 : Int) < a0 := by omega
theorem o9 (a0 : Int) (h0 : (-9223372036854775808) ≤ a0) (h1 : a0 ≤ 9223372036854775807) (h2 : ¬ a0 < (0 : Int)) (h3 : ¬ (20 : Int) < a0) (h4 : (1 : Int) ≤ a0) (h5 : (2 : Int) ≤ a0) (h6 : (3 : Int) ≤ a0) (h7 : (4 : Int) ≤ a0) (h8 : (5 : Int) ≤ a0) (h9 : (6 : Int) ≤ a0) (h10 : (7 : Int) ≤ a0) (h11 : (8 : Int) ≤ a0) (h12 : (9 : Int) ≤ a0) (h13 : (10 : Int) ≤ a0) (h14 : (11 : Int) ≤ a0) (h15 : ¬ (12 : Int) ≤ a0) : ¬ (11 : Int) < a0 := by omega
theorem o10 (a0 : Int) (h0 : (-9223372036854775808) ≤ a0) (h1 : a0 ≤ 9223372036854775807) (h2 : ¬ a0 < (0 : Int)) (h3 : ¬ (20 : Int) < a0) (h4 : (1 : Int) ≤ a0) (h5 : (2 : Int) ≤ a0) (h6 : (3 : Int) ≤ a0) (h7 : (4 : Int) ≤ a0) (h8 : (5 : Int) ≤ a0) (h9 : (6 : Int) ≤ a0) (h10 : (7 : Int) ≤ a0) (h11 : (8 : Int) ≤ a0) (h12 : (9 : Int) ≤ a0) (h13 : (10 : Int) ≤ a0) (h14 : ¬ (11 : Int) ≤ a0) : ¬ (10 : Int) < a0 := by omega
theorem o11 (a0 : Int) (h0 : (-9223372036854775808) ≤ a0) (h1 : a0 ≤ 9223372036854775807) (h2 : ¬ a0 < (0 : Int)) (h3 : ¬ (20 : Int) < a0) (h4 : (1 : Int) ≤ a0) (h5 : (2 : Int) ≤ a0) (h6 : (3 : Int) ≤ a0) (h7 : (4 : Int) ≤ a0) (h8 : (5 : Int) ≤ a0) (h9 : (6 : Int) ≤ a0) (h10 : (7 : Int) ≤ a0) (h11 : (8 : Int) ≤ a0) (h12 : (9 : Int) ≤ a0) (h13 : ¬ (10 : Int) ≤ a0) : ¬ (9 : Int) < a0 := by omega
theorem o12 (a0 : Int) (h0 : (-9223372036854775808) ≤ a0) (h1 : a0 ≤ 9223372036854775807) (h2 : ¬ a0 < (0 : Int)) (h3 : ¬ (20 : Int) < a0) (h4 : (1 : Int) ≤ a0) (h5 : (2 : Int) ≤ a0) (h6 : (3 : Int) ≤ a0) (h7 : (4 : Int) ≤ a0) (h8 : (5 : Int) ≤ a0) (h9 : (6 : Int) ≤ a0) (h10 : (7 : Int) ≤ a0) (h11 : (8 : Int) ≤ a0) (h12 : ¬ (9 : Int) ≤ a0) : ¬ (8 : Int) < a0 := by omega
theorem o13 (a0 : Int) (h0 : (-9223372036854775808) ≤ a0) (h1 : a0 ≤ 9223372036854775807) (h2 : ¬ a0 < (0 : Int)) (h3 : ¬ (20 : Int) < a0) (h4 : (1 : Int) ≤ a0) (h5 : (2 : Int) ≤ a0) (h6 : (3 : Int) ≤ a0) (h7 : (4 : Int) ≤ a0) (h8 : (5 : Int) ≤ a0) (h9 : (6 : Int) ≤ a0) (h10 : (7 : Int) ≤ a0) (h11 : ¬ (8 : Int) ≤ a0) : ¬ (7 : Int) < a0 := by omega
theorem o14 (a0 : Int) (h0 : (-9223372036854775808) ≤ a0) (h1 : a0 ≤ 9223372036854775807) (h2 : ¬ a0 < (0 : Int)) (h3 : ¬ (20 : Int) < a0) (h4 : (1 : Int) ≤ a0) (h5 : (2 : Int) ≤ a0) (h6 : (3 : Int) ≤ a0) (h7 : (4 : Int) ≤ a0) (h8 : (5 : Int) ≤ a0) (h9 : (6 : Int) ≤ a0) (h10 : ¬ (7 : Int) ≤ a0) : ¬ (6 : Int) < a0 := by omega
theorem o15 (a0 : Int) (h0 : (-9223372036854775808) ≤ a0) (h1 : a0 ≤ 9223372036854775807) (h2 : ¬ a0 < (0 : Int)) (h3 : ¬ (20 : Int) < a0) (h4 : (1 : Int) ≤ a0) (h5 : (2 : Int) ≤ a0) (h6 : (3 : Int) ≤ a0) (h7 : (4 : Int) ≤ a0) (h8 : (5 : Int) ≤ a0) (h9 : ¬ (6 : Int) ≤ a0) : ¬ (5 : Int) < a0 := by omega
theorem o16 (a0 : Int) (h0 : (-9223372036854775808) ≤ a0) (h1 : a0 ≤ 9223372036854775807) (h2 : ¬ a0 < (0 : Int)) (h3 : ¬ (20 : Int) < a0) (h4 : (1 : Int) ≤ a0) (h5 : (2 : Int) ≤ a0) (h6 : (3 : Int) ≤ a0) (h7 : (4 : Int) ≤ a0) (h8 : ¬ (5 : Int) ≤ a0) : ¬ (4 : Int) < a0 := by omega
theorem o17 (a0 : Int) (h0 : (-9223372036854775808) ≤ a0) (h1 : a0 ≤ 9223372036854775807) (h2 : ¬ a0 < (0 : Int)) (h3 : ¬ (20 : Int) < a0) (h4 : (1 : Int) ≤ a0) (h5 : (2 : Int) ≤ a0) (h6 : (3 : Int) ≤ a0) (h7 : ¬ (4 : Int) ≤ a0) : ¬ (3 : Int) < a0 := by omega
theorem o18 (a0 : Int) (h0 : (-9223372036854775808) ≤ a0) (h1 : a0 ≤ 9223372036854775807) (h2 : ¬ a0 < (0 : Int)) (h3 : ¬ (20 : Int) < a0) (h4 : (1 : Int) ≤ a0) (h5 : (2 : Int) ≤ a0) (h6 : ¬ (3 : Int) ≤ a0) : ¬ (2 : Int) < a0 := by omega
theorem o19 (a0 : Int) (h0 : (-9223372036854775808) ≤ a0) (h1 : a0 ≤ 9223372036854775807) (h2 : ¬ a0 < (0 : Int)) (h3 : ¬ (20 : Int) < a0) (h4 : (1 : Int) ≤ a0) (h5 : (2 : Int) ≤ a0) (h6 : ¬ (3 : Int) ≤ a0) : ((1 : Int) + a0 + 9223372036854775808) % 18446744073709551616 - 9223372036854775808 = (3 : Int) := by omega
theorem o20 (a0 : Int) (h0 : (-9223372036854775808) ≤ a0) (h1 : a0 ≤ 9223372036854775807) (h2 : ¬ a0 < (0 : Int)) (h3 : ¬ (20 : Int) < a0) (h4 : (1 : Int) ≤ a0) (h5 : ¬ (2 : Int) ≤ a0) : ¬ (1 : Int) < a0 := by omega
theorem o21 (a0 : Int) (h0 : (-9223372036854775808) ≤ a0) (h1 : a0 ≤ 9223372036854775807) (h2 : ¬ a0 < (0 : Int)) (h3 : ¬ (20 : Int) < a0) (h4 : (1 : Int) ≤ a0) (h5 : ¬ (2 : Int) ≤ a0) : ¬ (3 : Int) ≤ a0 := by omega
theorem o22 (a0 : Int) (h0 : (-9223372036854775808) ≤ a0) (h1 : a0 ≤ 9223372036854775807) (h2 : ¬ a0 < (0 : Int)) (h3 : ¬ (20 : Int) < a0) (h4 : (1 : Int) ≤ a0) (h5 : ¬ (2 : Int) ≤ a0) : ((1 : Int) + a0 + 9223372036854775808) % 18446744073709551616 - 9223372036854775808 = (2 : Int) := by omega
theorem o23 (a0 : Int) (h0 : (-9223372036854775808) ≤ a0) (h1 : a0 ≤ 9223372036854775807) (h2 : ¬ a0 < (0 : Int)) (h3 : ¬ (20 : Int) < a0) (h4 : ¬ (1 : Int) ≤ a0) : ¬ (0 : Int) < a0 := by omega
theorem o24 (a0 : Int) (h0 : (-9223372036854775808) ≤ a0) (h1 : a0 ≤ 9223372036854775807) (h2 : ¬ a0 < (0 : Int)) (h3 : ¬ (20 : Int) < a0) (h4 : ¬ (1 : Int) ≤ a0) : ¬ (3 : Int) ≤ a0 := by omega
theorem o25 (a0 : Int) (h0 : (-9223372036854775808) ≤ a0) (h1 : a0 ≤ 9223372036854775807) (h2 : ¬ a0 < (0 : Int)) (h3 : ¬ (20 : Int) < a0) (h4 : ¬ (1 : Int) ≤ a0) : ((1 : Int) + a0 + 9223372036854775808) % 18446744073709551616 - 9223372036854775808 = (1 : Int) := by omega

theorem t17 (a0 : Int) (l0 : (-9223372036854775808) ≤ a0) (u0 : a0 ≤ 9223372036854775807) (f0 : ¬ a0 < (0 : Int)) (f1 : ¬ (20 : Int) < a0) (f2 : (1 : Int) ≤ a0) (f3 : (2 : Int) ≤ a0) (f4 : (3 : Int) ≤ a0) (f5 : (4 : Int) ≤ a0) (f6 : (5 : Int) ≤ a0) (f7 : (6 : Int) ≤ a0) (f8 : (7 : Int) ≤ a0) (f9 : (8 : Int) ≤ a0) (f10 : (9 : Int) ≤ a0) (f11 : (10 : Int) ≤ a0) (f12 : (11 : Int) ≤ a0) (f13 : (12 : Int) ≤ a0) (f14 : (13 : Int) ≤ a0) (f15 : (14 : Int) ≤ a0) (f16 : (15 : Int) ≤ a0) : T3.holds [a0] := by
  refine Pt.h_fork (fun (f17 : (16 : Int) ≤ a0) => ?_) (fun (f17 : ¬ (16 : Int) ≤ a0) => ?_)
  · skip
    refine Pt.h_fork (fun (f18 : (17 : Int) ≤ a0) => ?_) (fun (f18 : ¬ (17 : Int) ≤ a0) => ?_)
    · skip
      refine Pt.h_fork (fun (f19 : (18 : Int) ≤ a0) => ?_) (fun (f19 : ¬ (18 : Int) ≤ a0) => ?_)
      · skip
        refine Pt.h_fork (fun (f20 : (19 : Int) ≤ a0) => ?_) (fun (f20 : ¬ (19 : Int) ≤ a0) => ?_)
        · skip
          refine Pt.h_fork (fun (f21 : (20 : Int) ≤ a0) => ?_) (fun (f21 : ¬ (20 : Int) ≤ a0) => ?_)
          · skip
            refine Pt.h_no (show ¬ (21 : Int) ≤ a0 from (o0 a0 l0 u0 f0 f1 f2 f3 f4 f5 f6 f7 f8 f9 f10 f11 f12 f13 f14 f15 f16 f17 f18 f19 f20 f21)) ?_
            refine Pt.h_no (show ¬ (20 : Int) < a0 from f1) ?_
            refine Pt.h_yes (show (3 : Int) ≤ a0 from f4) ?_
            exact Pt.h_done
          · skip
            refine Pt.h_no (show ¬ (19 : Int) < a0 from (o1 a0 l0 u0 f0 f1 f2 f3 f4 f5 f6 f7 f8 f9 f10 f11 f12 f13 f14 f15 f16 f17 f18 f19 f20 f21)) ?_
            refine Pt.h_yes (show (3 : Int) ≤ a0 from f4) ?_
            exact Pt.h_done
        · skip
          refine Pt.h_no (show ¬ (18 : Int) < a0 from (o2 a0 l0 u0 f0 f1 f2 f3 f4 f5 f6 f7 f8 f9 f10 f11 f12 f13 f14 f15 f16 f17 f18 f19 f20)) ?_
          refine Pt.h_yes (show (3 : Int) ≤ a0 from f4) ?_
          exact Pt.h_done
      · skip
        refine Pt.h_no (show ¬ (17 : Int) < a0 from (o3 a0 l0 u0 f0 f1 f2 f3 f4 f5 f6 f7 f8 f9 f10 f11 f12 f13 f14 f15 f16 f17 f18 f19)) ?_
        refine Pt.h_yes (show (3 : Int) ≤ a0 from f4) ?_
        exact Pt.h_done
    · skip
      refine Pt.h_no (show ¬ (16 : Int) < a0 from (o4 a0 l0 u0 f0 f1 f2 f3 f4 f5 f6 f7 f8 f9 f10 f11 f12 f13 f14 f15 f16 f17 f18)) ?_
      refine Pt.h_yes (show (3 : Int) ≤ a0 from f4) ?_
      exact Pt.h_done
  · skip
    refine Pt.h_no (show ¬ (15 : Int) < a0 from (o5 a0 l0 u0 f0 f1 f2 f3 f4 f5 f6 f7 f8 f9 f10 f11 f12 f13 f14 f15 f16 f17)) ?_
    refine Pt.h_yes (show (3 : Int) ≤ a0 from f4) ?_
    exact Pt.h_done

theorem t16 (a0 : Int) (l0 : (-9223372036854775808) ≤ a0) (u0 : a0 ≤ 9223372036854775807) (f0 : ¬ a0 < (0 : Int)) (f1 : ¬ (20 : Int) < a0) (f2 : (1 : Int) ≤ a0) (f3 : (2 : Int) ≤ a0) (f4 : (3 : Int) ≤ a0) (f5 : (4 : Int) ≤ a0) (f6 : (5 : Int) ≤ a0) (f7 : (6 : Int) ≤ a0) (f8 : (7 : Int) ≤ a0) (f9 : (8 : Int) ≤ a0) (f10 : (9 : Int) ≤ a0) (f11 : (10 : Int) ≤ a0) (f12 : (11 : Int) ≤ a0) (f13 : (12 : Int) ≤ a0) (f14 : (13 : Int) ≤ a0) (f15 : (14 : Int) ≤ a0) : T4.holds [a0] := by
  refine Pt.h_fork (fun (f16 : (15 : Int) ≤ a0) => ?_) (fun (f16 : ¬ (15 : Int) ≤ a0) => ?_)
  · skip
    exact t17 a0 l0 u0 f0 f1 f2 f3 f4 f5 f6 f7 f8 f9 f10 f11 f12 f13 f14 f15 f16
  · skip
    refine Pt.h_no (show ¬ (14 : Int) < a0 from (o6 a0 l0 u0 f0 f1 f2 f3 f4 f5 f6 f7 f8 f9 f10 f11 f12 f13 f14 f15 f16)) ?_
    refine Pt.h_yes (show (3 : Int) ≤ a0 from f4) ?_
    exact Pt.h_done

theorem t15 (a0 : Int) (l0 : (-9223372036854775808) ≤ a0) (u0 : a0 ≤ 9223372036854775807) (f0 : ¬ a0 < (0 : Int)) (f1 : ¬ (20 : Int) < a0) (f2 : (1 : Int) ≤ a0) (f3 : (2 : Int) ≤ a0) (f4 : (3 : Int) ≤ a0) (f5 : (4 : Int) ≤ a0) (f6 : (5 : Int) ≤ a0) (f7 : (6 : Int) ≤ a0) (f8 : (7 : Int) ≤ a0) (f9 : (8 : Int) ≤ a0) (f10 : (9 : Int) ≤ a0) (f11 : (10 : Int) ≤ a0) (f12 : (11 : Int) ≤ a0) (f13 : (12 : Int) ≤ a0) (f14 : (13 : Int) ≤ a0) : T5.holds [a0] := by
  refine Pt.h_fork (fun (f15 : (14 : Int) ≤ a0) => ?_) (fun (f15 : ¬ (14 : Int) ≤ a0) => ?_)
  · skip
    exact t16 a0 l0 u0 f0 f1 f2 f3 f4 f5 f6 f7 f8 f9 f10 f11 f12 f13 f14 f15
  · skip
    refine Pt.h_no (show ¬ (13 : Int) < a0 from (o7 a0 l0 u0 f0 f1 f2 f3 f4 f5 f6 f7 f8 f9 f10 f11 f12 f13 f14 f15)) ?_
    refine Pt.h_yes (show (3 : Int) ≤ a0 from f4) ?_
    exact Pt.h_done

theorem t14 (a0 : Int) (l0 : (-9223372036854775808) ≤ a0) (u0 : a0 ≤ 9223372036854775807) (f0 : ¬ a0 < (0 : Int)) (f1 : ¬ (20 : Int) < a0) (f2 : (1 : Int) ≤ a0) (f3 : (2 : Int) ≤ a0) (f4 : (3 : Int) ≤ a0) (f5 : (4 : Int) ≤ a0) (f6 : (5 : Int) ≤ a0) (f7 : (6 : Int) ≤ a0) (f8 : (7 : Int) ≤ a0) (f9 : (8 : Int) ≤ a0) (f10 : (9 : Int) ≤ a0) (f11 : (10 : Int) ≤ a0) (f12 : (11 : Int) ≤ a0) (f13 : (12 : Int) ≤ a0) : T6.holds [a0] := by
  refine Pt.h_fork (fun (f14 : (13 : Int) ≤ a0) => ?_) (fun (f14 : ¬ (13 : Int) ≤ a0) => ?_)
  · skip
    exact t15 a0 l0 u0 f0 f1 f2 f3 f4 f5 f6 f7 f8 f9 f10 f11 f12 f13 f14
  · skip
    refine Pt.h_no (show ¬ (12 : Int) < a0 from (o8 a0 l0 u0 f0 f1 f2 f3 f4 f5 f6 f7 f8 f9 f10 f11 f12 f13 f14)) ?_
    refine Pt.h_yes (show (3 : Int) ≤ a0 from f4) ?_
    exact Pt.h_done

theorem t13 (a0 : Int) (l0 : (-9223372036854775808) ≤ a0) (u0 : a0 ≤ 9223372036854775807) (f0 : ¬ a0 < (0 : Int)) (f1 : ¬ (20 : Int) < a0) (f2 : (1 : Int) ≤ a0) (f3 : (2 : Int) ≤ a0) (f4 : (3 : Int) ≤ a0) (f5 : (4 : Int) ≤ a0) (f6 : (5 : Int) ≤ a0) (f7 : (6 : Int) ≤ a0) (f8 : (7 : Int) ≤ a0) (f9 : (8 : Int) ≤ a0) (f10 : (9 : Int) ≤ a0) (f11 : (10 : Int) ≤ a0) (f12 : (11 : Int) ≤ a0) : T7.holds [a0] := by
  refine Pt.h_fork (fun (f13 : (12 : Int) ≤ a0) => ?_) (fun (f13 : ¬ (12 : Int) ≤ a0) => ?_)
  · skip
    exact t14 a0 l0 u0 f0 f1 f2 f3 f4 f5 f6 f7 f8 f9 f10 f11 f12 f13
  · skip
    refine Pt.h_no (show ¬ (11 : Int) < a0 from (o9 a0 l0 u0 f0 f1 f2 f3 f4 f5 f6 f7 f8 f9 f10 f11 f12 f13)) ?_
    refine Pt.h_yes (show (3 : Int) ≤ a0 from f4) ?_
    exact Pt.h_done

theorem t12 (a0 : Int) (l0 : (-9223372036854775808) ≤ a0) (u0 : a0 ≤ 9223372036854775807) (f0 : ¬ a0 < (0 : Int)) (f1 : ¬ (20 : Int) < a0) (f2 : (1 : Int) ≤ a0) (f3 : (2 : Int) ≤ a0) (f4 : (3 : Int) ≤ a0) (f5 : (4 : Int) ≤ a0) (f6 : (5 : Int) ≤ a0) (f7 : (6 : Int) ≤ a0) (f8 : (7 : Int) ≤ a0) (f9 : (8 : Int) ≤ a0) (f10 : (9 : Int) ≤ a0) (f11 : (10 : Int) ≤ a0) : T8.holds [a0] := by
  refine Pt.h_fork (fun (f12 : (11 : Int) ≤ a0) => ?_) (fun (f12 : ¬ (11 : Int) ≤ a0) => ?_)
  · skip
    exact t13 a0 l0 u0 f0 f1 f2 f3 f4 f5 f6 f7 f8 f9 f10 f11 f12
  · skip
    refine Pt.h_no (show ¬ (10 : Int) < a0 from (o10 a0 l0 u0 f0 f1 f2 f3 f4 f5 f6 f7 f8 f9 f10 f11 f12)) ?_
    refine Pt.h_yes (show (3 : Int) ≤ a0 from f4) ?_
    exact Pt.h_done

theorem t11 (a0 : Int) (l0 : (-9223372036854775808) ≤ a0) (u0 : a0 ≤ 9223372036854775807) (f0 : ¬ a0 < (0 : Int)) (f1 : ¬ (20 : Int) < a0) (f2 : (1 : Int) ≤ a0) (f3 : (2 : Int) ≤ a0) (f4 : (3 : Int) ≤ a0) (f5 : (4 : Int) ≤ a0) (f6 : (5 : Int) ≤ a0) (f7 : (6 : Int) ≤ a0) (f8 : (7 : Int) ≤ a0) (f9 : (8 : Int) ≤ a0) (f10 : (9 : Int) ≤ a0) : T9.holds [a0] := by
  refine Pt.h_fork (fun (f11 : (10 : Int) ≤ a0) => ?_) (fun (f11 : ¬ (10 : Int) ≤ a0) => ?_)
  · skip
    exact t12 a0 l0 u0 f0 f1 f2 f3 f4 f5 f6 f7 f8 f9 f10 f11
  · skip
    refine Pt.h_no (show ¬ (9 : Int) < a0 from (o11 a0 l0 u0 f0 f1 f2 f3 f4 f5 f6 f7 f8 f9 f10 f11)) ?_
    refine Pt.h_yes (show (3 : Int) ≤ a0 from f4) ?_
    exact Pt.h_done

theorem t10 (a0 : Int) (l0 : (-9223372036854775808) ≤ a0) (u0 : a0 ≤ 9223372036854775807) (f0 : ¬ a0 < (0 : Int)) (f1 : ¬ (20 : Int) < a0) (f2 : (1 : Int) ≤ a0) (f3 : (2 : Int) ≤ a0) (f4 : (3 : Int) ≤ a0) (f5 : (4 : Int) ≤ a0) (f6 : (5 : Int) ≤ a0) (f7 : (6 : Int) ≤ a0) (f8 : (7 : Int) ≤ a0) (f9 : (8 : Int) ≤ a0) : T10.holds [a0] := by
  refine Pt.h_fork (fun (f10 : (9 : Int) ≤ a0) => ?_) (fun (f10 : ¬ (9 : Int) ≤ a0) => ?_)
  · skip
    exact t11 a0 l0 u0 f0 f1 f2 f3 f4 f5 f6 f7 f8 f9 f10
  · skip
    refine Pt.h_no (show ¬ (8 : Int) < a0 from (o12 a0 l0 u0 f0 f1 f2 f3 f4 f5 f6 f7 f8 f9 f10)) ?_
    refine Pt.h_yes (show (3 : Int) ≤ a0 from f4) ?_
    exact Pt.h_done

theorem t9 (a0 : Int) (l0 : (-9223372036854775808) ≤ a0) (u0 : a0 ≤ 9223372036854775807) (f0 : ¬ a0 < (0 : Int)) (f1 : ¬ (20 : Int) < a0) (f2 : (1 : Int) ≤ a0) (f3 : (2 : Int) ≤ a0) (f4 : (3 : Int) ≤ a0) (f5 : (4 : Int) ≤ a0) (f6 : (5 : Int) ≤ a0) (f7 : (6 : Int) ≤ a0) (f8 : (7 : Int) ≤ a0) : T11.holds [a0] := by
  refine Pt.h_fork (fun (f9 : (8 : Int) ≤ a0) => ?_) (fun (f9 : ¬ (8 : Int) ≤ a0) => ?_)
  · skip
    exact t10 a0 l0 u0 f0 f1 f2 f3 f4 f5 f6 f7 f8 f9
  · skip
    refine Pt.h_no (show ¬ (7 : Int) < a0 from (o13 a0 l0 u0 f0 f1 f2 f3 f4 f5 f6 f7 f8 f9)) ?_
    refine Pt.h_yes (show (3 : Int) ≤ a0 from f4) ?_
    exact Pt.h_done

theorem t8 (a0 : Int) (l0 : (-9223372036854775808) ≤ a0) (u0 : a0 ≤ 9223372036854775807) (f0 : ¬ a0 < (0 : Int)) (f1 : ¬ (20 : Int) < a0) (f2 : (1 : Int) ≤ a0) (f3 : (2 : Int) ≤ a0) (f4 : (3 : Int) ≤ a0) (f5 : (4 : Int) ≤ a0) (f6 : (5 : Int) ≤ a0) (f7 : (6 : Int) ≤ a0) : T12.holds [a0] := by
  refine Pt.h_fork (fun (f8 : (7 : Int) ≤ a0) => ?_) (fun (f8 : ¬ (7 : Int) ≤ a0) => ?_)
  · skip
    exact t9 a0 l0 u0 f0 f1 f2 f3 f4 f5 f6 f7 f8
  · skip
    refine Pt.h_no (show ¬ (6 : Int) < a0 from (o14 a0 l0 u0 f0 f1 f2 f3 f4 f5 f6 f7 f8)) ?_
    refine Pt.h_yes (show (3 : Int) ≤ a0 from f4) ?_
    exact Pt.h_done

theorem t7 (a0 : Int) (l0 : (-9223372036854775808) ≤ a0) (u0 : a0 ≤ 9223372036854775807) (f0 : ¬ a0 < (0 : Int)) (f1 : ¬ (20 : Int) < a0) (f2 : (1 : Int) ≤ a0) (f3 : (2 : Int) ≤ a0) (f4 : (3 : Int) ≤ a0) (f5 : (4 : Int) ≤ a0) (f6 : (5 : Int) ≤ a0) : T13.holds [a0] := by
  refine Pt.h_fork (fun (f7 : (6 : Int) ≤ a0) => ?_) (fun (f7 : ¬ (6 : Int) ≤ a0) => ?_)
  · skip
    exact t8 a0 l0 u0 f0 f1 f2 f3 f4 f5 f6 f7
  · skip
    refine Pt.h_no (show ¬ (5 : Int) < a0 from (o15 a0 l0 u0 f0 f1 f2 f3 f4 f5 f6 f7)) ?_
    refine Pt.h_yes (show (3 : Int) ≤ a0 from f4) ?_
    exact Pt.h_done

theorem t6 (a0 : Int) (l0 : (-9223372036854775808) ≤ a0) (u0 : a0 ≤ 9223372036854775807) (f0 : ¬ a0 < (0 : Int)) (f1 : ¬ (20 : Int) < a0) (f2 : (1 : Int) ≤ a0) (f3 : (2 : Int) ≤ a0) (f4 : (3 : Int) ≤ a0) (f5 : (4 : Int) ≤ a0) : T14.holds [a0] := by
  refine Pt.h_fork (fun (f6 : (5 : Int) ≤ a0) => ?_) (fun (f6 : ¬ (5 : Int) ≤ a0) => ?_)
  · skip
    exact t7 a0 l0 u0 f0 f1 f2 f3 f4 f5 f6
  · skip
    refine Pt.h_no (show ¬ (4 : Int) < a0 from (o16 a0 l0 u0 f0 f1 f2 f3 f4 f5 f6)) ?_
    refine Pt.h_yes (show (3 : Int) ≤ a0 from f4) ?_
    exact Pt.h_done

theorem t5 (a0 : Int) (l0 : (-9223372036854775808) ≤ a0) (u0 : a0 ≤ 9223372036854775807) (f0 : ¬ a0 < (0 : Int)) (f1 : ¬ (20 : Int) < a0) (f2 : (1 : Int) ≤ a0) (f3 : (2 : Int) ≤ a0) (f4 : (3 : Int) ≤ a0) : T15.holds [a0] := by
  refine Pt.h_fork (fun (f5 : (4 : Int) ≤ a0) => ?_) (fun (f5 : ¬ (4 : Int) ≤ a0) => ?_)
  · skip
    exact t6 a0 l0 u0 f0 f1 f2 f3 f4 f5
  · skip
    refine Pt.h_no (show ¬ (3 : Int) < a0 from (o17 a0 l0 u0 f0 f1 f2 f3 f4 f5)) ?_
    refine Pt.h_yes (show (3 : Int) ≤ a0 from f4) ?_
    exact Pt.h_done

theorem t4 (a0 : Int) (l0 : (-9223372036854775808) ≤ a0) (u0 : a0 ≤ 9223372036854775807) (f0 : ¬ a0 < (0 : Int)) (f1 : ¬ (20 : Int) < a0) (f2 : (1 : Int) ≤ a0) (f3 : (2 : Int) ≤ a0) : T16.holds [a0] := by
  refine Pt.h_fork (fun (f4 : (3 : Int) ≤ a0) => ?_) (fun (f4 : ¬ (3 : Int) ≤ a0) => ?_)
  · skip
    exact t5 a0 l0 u0 f0 f1 f2 f3 f4
  · skip
    refine Pt.h_no (show ¬ (2 : Int) < a0 from (o18 a0 l0 u0 f0 f1 f2 f3 f4)) ?_
    refine Pt.h_no (show ¬ (3 : Int) ≤ a0 from f4) ?_
    refine Pt.h_is (v_add rfl rfl  ((wrap_i64 _).trans (o19 a0 l0 u0 f0 f1 f2 f3 f4))) ?_
    exact Pt.h_done

theorem t3 (a0 : Int) (l0 : (-9223372036854775808) ≤ a0) (u0 : a0 ≤ 9223372036854775807) (f0 : ¬ a0 < (0 : Int)) (f1 : ¬ (20 : Int) < a0) (f2 : (1 : Int) ≤ a0) : T17.holds [a0] := by
  refine Pt.h_fork (fun (f3 : (2 : Int) ≤ a0) => ?_) (fun (f3 : ¬ (2 : Int) ≤ a0) => ?_)
  · skip
    exact t4 a0 l0 u0 f0 f1 f2 f3
  · skip
    refine Pt.h_no (show ¬ (1 : Int) < a0 from (o20 a0 l0 u0 f0 f1 f2 f3)) ?_
    refine Pt.h_no (show ¬ (3 : Int) ≤ a0 from (o21 a0 l0 u0 f0 f1 f2 f3)) ?_
    refine Pt.h_is (v_add rfl rfl  ((wrap_i64 _).trans (o22 a0 l0 u0 f0 f1 f2 f3))) ?_
    exact Pt.h_done

theorem t2 (a0 : Int) (l0 : (-9223372036854775808) ≤ a0) (u0 : a0 ≤ 9223372036854775807) (f0 : ¬ a0 < (0 : Int)) (f1 : ¬ (20 : Int) < a0) : T18.holds [a0] := by
  refine Pt.h_fork (fun (f2 : (1 : Int) ≤ a0) => ?_) (fun (f2 : ¬ (1 : Int) ≤ a0) => ?_)
  · skip
    exact t3 a0 l0 u0 f0 f1 f2
  · skip
    refine Pt.h_no (show ¬ (0 : Int) < a0 from (o23 a0 l0 u0 f0 f1 f2)) ?_
    refine Pt.h_no (show ¬ (3 : Int) ≤ a0 from (o24 a0 l0 u0 f0 f1 f2)) ?_
    refine Pt.h_is (v_add rfl rfl  ((wrap_i64 _).trans (o25 a0 l0 u0 f0 f1 f2))) ?_
    exact Pt.h_done

theorem t1 (a0 : Int) (l0 : (-9223372036854775808) ≤ a0) (u0 : a0 ≤ 9223372036854775807) (f0 : ¬ a0 < (0 : Int)) : T19.holds [a0] := by
  refine Pt.h_fork (fun (f1 : (20 : Int) < a0) => ?_) (fun (f1 : ¬ (20 : Int) < a0) => ?_)
  · skip
    exact Pt.h_done
  · skip
    exact t2 a0 l0 u0 f0 f1

theorem t0 (a0 : Int) (l0 : (-9223372036854775808) ≤ a0) (u0 : a0 ≤ 9223372036854775807) : T20.holds [a0] := by
  refine Pt.h_fork (fun (f0 : a0 < (0 : Int)) => ?_) (fun (f0 : ¬ a0 < (0 : Int)) => ?_)
  · skip
    exact Pt.h_done
  · skip
    exact t1 a0 l0 u0 f0

end Go.Proofs.Ythmnfjaogoennaa.nearAsks
