/- SumAdds: what its run asks, and that it holds. -/
import Derived.Test.YthmnfjaogoennaaM3
import Derived.KernelRfl
set_option linter.unusedSimpArgs false
set_option linter.unusedVariables false
set_option linter.unusedSectionVars false
set_option linter.unnecessarySimpa false
namespace Go.Proofs.Ythmnfjaogoennaa.sumAdds
open Go.Am

def T0 : Pt := (.new (.ib .and .i64 (.v 0) (.c 65535)) (.new (.ib .and .i64 (.v 1) (.c 65535)) (.new (.ib .add .i64 (.v 3) (.v 4)) (.new (.ib .and .i64 (.v 5) (.c 65535)) (.new (.sh .shr .i64 (.v 5) (.c 16)) (.new (.ib .add .i64 (.v 6) (.v 7)) (.is (.ib .add .i64 (.v 4) (.v 3)) (.v 5) (.yes (.eq (.v 8) (.v 8)) (.is (.ib .and .i64 (.v 8) (.c 65535)) (.v 8) (.new (.ib .and .i64 (.v 2) (.c 65535)) (.new (.ib .add .i64 (.v 8) (.v 9)) (.new (.ib .and .i64 (.v 10) (.c 65535)) (.new (.sh .shr .i64 (.v 10) (.c 16)) (.new (.ib .add .i64 (.v 11) (.v 12)) (.new (.ib .add .i64 (.v 4) (.v 9)) (.new (.ib .and .i64 (.v 14) (.c 65535)) (.new (.sh .shr .i64 (.v 14) (.c 16)) (.new (.ib .add .i64 (.v 15) (.v 16)) (.is (.ib .and .i64 (.v 17) (.c 65535)) (.v 17) (.new (.ib .add .i64 (.v 3) (.v 17)) (.new (.ib .and .i64 (.v 18) (.c 65535)) (.new (.sh .shr .i64 (.v 18) (.c 16)) (.is (.ib .add .i64 (.v 19) (.v 20)) (.v 13) (.yes (.eq (.v 13) (.v 13)) (.is (.ib .add .i64 (.v 3) (.c 0)) (.v 3) (.is (.ib .and .i64 (.v 3) (.c 65535)) (.v 3) (.is (.sh .shr .i64 (.v 3) (.c 16)) (.c 0) (.yes (.eq (.v 3) (.v 3)) .done))))))))))))))))))))))))))))

def R0 : Pt := (.new (.ib .and .i64 (.v 0) (.c 65535)) (.new (.ib .and .i64 (.v 1) (.c 65535)) (.new (.ib .add .i64 (.v 3) (.v 4)) (.new (.ib .and .i64 (.v 5) (.c 65535)) (.new (.sh .shr .i64 (.v 5) (.c 16)) (.new (.ib .add .i64 (.v 6) (.v 7)) (.is (.ib .add .i64 (.v 4) (.v 3)) (.v 5) (.yes (.eq (.v 8) (.v 8)) (.is (.ib .and .i64 (.v 8) (.c 65535)) (.v 8) (.new (.ib .and .i64 (.v 2) (.c 65535)) (.new (.ib .add .i64 (.v 8) (.v 9)) (.new (.ib .and .i64 (.v 10) (.c 65535)) (.new (.sh .shr .i64 (.v 10) (.c 16)) (.new (.ib .add .i64 (.v 11) (.v 12)) (.new (.ib .add .i64 (.v 4) (.v 9)) (.new (.ib .and .i64 (.v 14) (.c 65535)) (.new (.sh .shr .i64 (.v 14) (.c 16)) (.new (.ib .add .i64 (.v 15) (.v 16)) (.is (.ib .and .i64 (.v 17) (.c 65535)) (.v 17) (.new (.ib .add .i64 (.v 3) (.v 17)) (.new (.ib .and .i64 (.v 18) (.c 65535)) (.new (.sh .shr .i64 (.v 18) (.c 16)) (.is (.ib .add .i64 (.v 19) (.v 20)) (.v 13) (.yes (.eq (.v 13) (.v 13)) (.is (.ib .add .i64 (.v 3) (.c 0)) (.v 3) (.is (.ib .and .i64 (.v 3) (.c 65535)) (.v 3) (.is (.sh .shr .i64 (.v 3) (.c 16)) (.c 0) (.yes (.eq (.v 3) (.v 3)) .done))))))))))))))))))))))))))))

theorem fd (s q r t : Int) (h0 : 0 ≤ s) (h1 : s ≤ 131070) (hq : q = s % 65536) (hr : r = s / 65536) (ht : t = q + r) : 0 ≤ t ∧ t ≤ 65535 ∧ (s ≤ 65535 → t = s) ∧ (65536 ≤ s → t = s - 65535) := by omega
theorem as5 (z3 z4 z9 z5 z8 z10 z13 z14 z17 z18 t : Int) (a3 : 0 ≤ z3) (b3 : z3 ≤ 65535) (a4 : 0 ≤ z4) (b4 : z4 ≤ 65535) (a9 : 0 ≤ z9) (b9 : z9 ≤ 65535) (h5 : z5 = z3 + z4) (h10 : z10 = z8 + z9) (h14 : z14 = z4 + z9) (h18 : z18 = z3 + z17)
    (A : 0 ≤ z8 ∧ z8 ≤ 65535 ∧ (z5 ≤ 65535 → z8 = z5) ∧ (65536 ≤ z5 → z8 = z5 - 65535)) (B : 0 ≤ z13 ∧ z13 ≤ 65535 ∧ (z10 ≤ 65535 → z13 = z10) ∧ (65536 ≤ z10 → z13 = z10 - 65535))
    (C : 0 ≤ z17 ∧ z17 ≤ 65535 ∧ (z14 ≤ 65535 → z17 = z14) ∧ (65536 ≤ z14 → z17 = z14 - 65535)) (D : 0 ≤ t ∧ t ≤ 65535 ∧ (z18 ≤ 65535 → t = z18) ∧ (65536 ≤ z18 → t = z18 - 65535)) : t = z13 := by omega

theorem rg (z a : Int) (h : z = a % 65536) : 0 ≤ z ∧ z ≤ 65535 := by omega
theorem sm (s a b : Int) (h : s = a + b) (ha : 0 ≤ a ∧ a ≤ 65535) (hb : 0 ≤ b ∧ b ≤ 65535) : 0 ≤ s ∧ s ≤ 131070 := by omega
theorem wr (x z : Int) (e : x = z) (h : 0 ≤ z ∧ z ≤ 131070) : (x + 9223372036854775808) % 18446744073709551616 - 9223372036854775808 = z := by omega

theorem o0 (a0 z3 : Int) (h0 : (-9223372036854775808 : Int) ≤ a0) (h1 : a0 ≤ (9223372036854775807 : Int)) (h2 : z3 = a0 % 65536) : (a0 % 65536 + 9223372036854775808) % 18446744073709551616 - 9223372036854775808 = z3 := by omega

theorem o1 (a1 z4 : Int) (h0 : (-9223372036854775808 : Int) ≤ a1) (h1 : a1 ≤ (9223372036854775807 : Int)) (h2 : z4 = a1 % 65536) : (a1 % 65536 + 9223372036854775808) % 18446744073709551616 - 9223372036854775808 = z4 := by omega

theorem o2 (a0 a1 z3 z4 z5 : Int) (h0 : (-9223372036854775808 : Int) ≤ a0) (h1 : a0 ≤ (9223372036854775807 : Int)) (h2 : (-9223372036854775808 : Int) ≤ a1) (h3 : a1 ≤ (9223372036854775807 : Int)) (h4 : z3 = a0 % 65536) (h5 : z4 = a1 % 65536) (h6 : z5 = z3 + z4) : (z3 + z4 + 9223372036854775808) % 18446744073709551616 - 9223372036854775808 = z5 := by omega

theorem o3 (a0 a1 z3 z4 z5 z6 : Int) (h0 : (-9223372036854775808 : Int) ≤ a0) (h1 : a0 ≤ (9223372036854775807 : Int)) (h2 : (-9223372036854775808 : Int) ≤ a1) (h3 : a1 ≤ (9223372036854775807 : Int)) (h4 : z3 = a0 % 65536) (h5 : z4 = a1 % 65536) (h6 : z5 = z3 + z4) (h7 : z6 = z5 % 65536) : (z5 % 65536 + 9223372036854775808) % 18446744073709551616 - 9223372036854775808 = z6 := by omega

theorem o4 (a0 a1 z3 z4 z5 z6 z7 : Int) (h0 : (-9223372036854775808 : Int) ≤ a0) (h1 : a0 ≤ (9223372036854775807 : Int)) (h2 : (-9223372036854775808 : Int) ≤ a1) (h3 : a1 ≤ (9223372036854775807 : Int)) (h4 : z3 = a0 % 65536) (h5 : z4 = a1 % 65536) (h6 : z5 = z3 + z4) (h7 : z6 = z5 % 65536) (h8 : z7 = z5 / 65536) : z5 / 65536 = z7 := by omega

theorem o5 (a0 a1 z3 z4 z5 z6 z7 z8 : Int) (h0 : (-9223372036854775808 : Int) ≤ a0) (h1 : a0 ≤ (9223372036854775807 : Int)) (h2 : (-9223372036854775808 : Int) ≤ a1) (h3 : a1 ≤ (9223372036854775807 : Int)) (h4 : z3 = a0 % 65536) (h5 : z4 = a1 % 65536) (h6 : z5 = z3 + z4) (h7 : z6 = z5 % 65536) (h8 : z7 = z5 / 65536) (h9 : z8 = z6 + z7) : (z6 + z7 + 9223372036854775808) % 18446744073709551616 - 9223372036854775808 = z8 := by omega

theorem o6 (a0 a1 z3 z4 z5 z6 z7 z8 : Int) (h0 : (-9223372036854775808 : Int) ≤ a0) (h1 : a0 ≤ (9223372036854775807 : Int)) (h2 : (-9223372036854775808 : Int) ≤ a1) (h3 : a1 ≤ (9223372036854775807 : Int)) (h4 : z3 = a0 % 65536) (h5 : z4 = a1 % 65536) (h6 : z5 = z3 + z4) (h7 : z6 = z5 % 65536) (h8 : z7 = z5 / 65536) (h9 : z8 = z6 + z7) : (z4 + z3 + 9223372036854775808) % 18446744073709551616 - 9223372036854775808 = z5 := by omega

theorem o7 (a0 a1 z3 z4 z5 z6 z7 z8 : Int) (h0 : (-9223372036854775808 : Int) ≤ a0) (h1 : a0 ≤ (9223372036854775807 : Int)) (h2 : (-9223372036854775808 : Int) ≤ a1) (h3 : a1 ≤ (9223372036854775807 : Int)) (h4 : z3 = a0 % 65536) (h5 : z4 = a1 % 65536) (h6 : z5 = z3 + z4) (h7 : z6 = z5 % 65536) (h8 : z7 = z5 / 65536) (h9 : z8 = z6 + z7) : z8 = z8 := by omega

theorem o8 (a0 a1 z3 z4 z5 z6 z7 z8 : Int) (h0 : (-9223372036854775808 : Int) ≤ a0) (h1 : a0 ≤ (9223372036854775807 : Int)) (h2 : (-9223372036854775808 : Int) ≤ a1) (h3 : a1 ≤ (9223372036854775807 : Int)) (h4 : z3 = a0 % 65536) (h5 : z4 = a1 % 65536) (h6 : z5 = z3 + z4) (h7 : z6 = z5 % 65536) (h8 : z7 = z5 / 65536) (h9 : z8 = z6 + z7) : (z8 % 65536 + 9223372036854775808) % 18446744073709551616 - 9223372036854775808 = z8 := by omega

theorem o9 (a2 z9 : Int) (h0 : (-9223372036854775808 : Int) ≤ a2) (h1 : a2 ≤ (9223372036854775807 : Int)) (h2 : z9 = a2 % 65536) : (a2 % 65536 + 9223372036854775808) % 18446744073709551616 - 9223372036854775808 = z9 := by omega

theorem o10 (a0 a1 a2 z3 z4 z5 z6 z7 z8 z9 z10 : Int) (h0 : (-9223372036854775808 : Int) ≤ a0) (h1 : a0 ≤ (9223372036854775807 : Int)) (h2 : (-9223372036854775808 : Int) ≤ a1) (h3 : a1 ≤ (9223372036854775807 : Int)) (h4 : (-9223372036854775808 : Int) ≤ a2) (h5 : a2 ≤ (9223372036854775807 : Int)) (h6 : z3 = a0 % 65536) (h7 : z4 = a1 % 65536) (h8 : z5 = z3 + z4) (h9 : z6 = z5 % 65536) (h10 : z7 = z5 / 65536) (h11 : z8 = z6 + z7) (h12 : z9 = a2 % 65536) (h13 : z10 = z8 + z9) : (z8 + z9 + 9223372036854775808) % 18446744073709551616 - 9223372036854775808 = z10 := by omega

theorem o11 (a0 a1 a2 z3 z4 z5 z6 z7 z8 z9 z10 z11 : Int) (h0 : (-9223372036854775808 : Int) ≤ a0) (h1 : a0 ≤ (9223372036854775807 : Int)) (h2 : (-9223372036854775808 : Int) ≤ a1) (h3 : a1 ≤ (9223372036854775807 : Int)) (h4 : (-9223372036854775808 : Int) ≤ a2) (h5 : a2 ≤ (9223372036854775807 : Int)) (h6 : z3 = a0 % 65536) (h7 : z4 = a1 % 65536) (h8 : z5 = z3 + z4) (h9 : z6 = z5 % 65536) (h10 : z7 = z5 / 65536) (h11 : z8 = z6 + z7) (h12 : z9 = a2 % 65536) (h13 : z10 = z8 + z9) (h14 : z11 = z10 % 65536) : (z10 % 65536 + 9223372036854775808) % 18446744073709551616 - 9223372036854775808 = z11 := by omega

theorem o12 (a0 a1 a2 z3 z4 z5 z6 z7 z8 z9 z10 z11 z12 : Int) (h0 : (-9223372036854775808 : Int) ≤ a0) (h1 : a0 ≤ (9223372036854775807 : Int)) (h2 : (-9223372036854775808 : Int) ≤ a1) (h3 : a1 ≤ (9223372036854775807 : Int)) (h4 : (-9223372036854775808 : Int) ≤ a2) (h5 : a2 ≤ (9223372036854775807 : Int)) (h6 : z3 = a0 % 65536) (h7 : z4 = a1 % 65536) (h8 : z5 = z3 + z4) (h9 : z6 = z5 % 65536) (h10 : z7 = z5 / 65536) (h11 : z8 = z6 + z7) (h12 : z9 = a2 % 65536) (h13 : z10 = z8 + z9) (h14 : z11 = z10 % 65536) (h15 : z12 = z10 / 65536) : z10 / 65536 = z12 := by omega

theorem o13 (a0 a1 a2 z3 z4 z5 z6 z7 z8 z9 z10 z11 z12 z13 : Int) (h0 : (-9223372036854775808 : Int) ≤ a0) (h1 : a0 ≤ (9223372036854775807 : Int)) (h2 : (-9223372036854775808 : Int) ≤ a1) (h3 : a1 ≤ (9223372036854775807 : Int)) (h4 : (-9223372036854775808 : Int) ≤ a2) (h5 : a2 ≤ (9223372036854775807 : Int)) (h6 : z3 = a0 % 65536) (h7 : z4 = a1 % 65536) (h8 : z5 = z3 + z4) (h9 : z6 = z5 % 65536) (h10 : z7 = z5 / 65536) (h11 : z8 = z6 + z7) (h12 : z9 = a2 % 65536) (h13 : z10 = z8 + z9) (h14 : z11 = z10 % 65536) (h15 : z12 = z10 / 65536) (h16 : z13 = z11 + z12) : (z11 + z12 + 9223372036854775808) % 18446744073709551616 - 9223372036854775808 = z13 := by omega

theorem o14 (a1 a2 z4 z9 z14 : Int) (h0 : (-9223372036854775808 : Int) ≤ a1) (h1 : a1 ≤ (9223372036854775807 : Int)) (h2 : (-9223372036854775808 : Int) ≤ a2) (h3 : a2 ≤ (9223372036854775807 : Int)) (h4 : z4 = a1 % 65536) (h5 : z9 = a2 % 65536) (h6 : z14 = z4 + z9) : (z4 + z9 + 9223372036854775808) % 18446744073709551616 - 9223372036854775808 = z14 := by omega

theorem o15 (a1 a2 z4 z9 z14 z15 : Int) (h0 : (-9223372036854775808 : Int) ≤ a1) (h1 : a1 ≤ (9223372036854775807 : Int)) (h2 : (-9223372036854775808 : Int) ≤ a2) (h3 : a2 ≤ (9223372036854775807 : Int)) (h4 : z4 = a1 % 65536) (h5 : z9 = a2 % 65536) (h6 : z14 = z4 + z9) (h7 : z15 = z14 % 65536) : (z14 % 65536 + 9223372036854775808) % 18446744073709551616 - 9223372036854775808 = z15 := by omega

theorem o16 (a1 a2 z4 z9 z14 z15 z16 : Int) (h0 : (-9223372036854775808 : Int) ≤ a1) (h1 : a1 ≤ (9223372036854775807 : Int)) (h2 : (-9223372036854775808 : Int) ≤ a2) (h3 : a2 ≤ (9223372036854775807 : Int)) (h4 : z4 = a1 % 65536) (h5 : z9 = a2 % 65536) (h6 : z14 = z4 + z9) (h7 : z15 = z14 % 65536) (h8 : z16 = z14 / 65536) : z14 / 65536 = z16 := by omega

theorem o17 (a1 a2 z4 z9 z14 z15 z16 z17 : Int) (h0 : (-9223372036854775808 : Int) ≤ a1) (h1 : a1 ≤ (9223372036854775807 : Int)) (h2 : (-9223372036854775808 : Int) ≤ a2) (h3 : a2 ≤ (9223372036854775807 : Int)) (h4 : z4 = a1 % 65536) (h5 : z9 = a2 % 65536) (h6 : z14 = z4 + z9) (h7 : z15 = z14 % 65536) (h8 : z16 = z14 / 65536) (h9 : z17 = z15 + z16) : (z15 + z16 + 9223372036854775808) % 18446744073709551616 - 9223372036854775808 = z17 := by omega

theorem o18 (a1 a2 z4 z9 z14 z15 z16 z17 : Int) (h0 : (-9223372036854775808 : Int) ≤ a1) (h1 : a1 ≤ (9223372036854775807 : Int)) (h2 : (-9223372036854775808 : Int) ≤ a2) (h3 : a2 ≤ (9223372036854775807 : Int)) (h4 : z4 = a1 % 65536) (h5 : z9 = a2 % 65536) (h6 : z14 = z4 + z9) (h7 : z15 = z14 % 65536) (h8 : z16 = z14 / 65536) (h9 : z17 = z15 + z16) : (z17 % 65536 + 9223372036854775808) % 18446744073709551616 - 9223372036854775808 = z17 := by omega

theorem o19 (a0 a1 a2 z3 z4 z5 z6 z7 z8 z9 z10 z11 z12 z13 z14 z15 z16 z17 z18 : Int) (h0 : (-9223372036854775808 : Int) ≤ a0) (h1 : a0 ≤ (9223372036854775807 : Int)) (h2 : (-9223372036854775808 : Int) ≤ a1) (h3 : a1 ≤ (9223372036854775807 : Int)) (h4 : (-9223372036854775808 : Int) ≤ a2) (h5 : a2 ≤ (9223372036854775807 : Int)) (h6 : z3 = a0 % 65536) (h7 : z4 = a1 % 65536) (h8 : z5 = z3 + z4) (h9 : z6 = z5 % 65536) (h10 : z7 = z5 / 65536) (h11 : z8 = z6 + z7) (h12 : z9 = a2 % 65536) (h13 : z10 = z8 + z9) (h14 : z11 = z10 % 65536) (h15 : z12 = z10 / 65536) (h16 : z13 = z11 + z12) (h17 : z14 = z4 + z9) (h18 : z15 = z14 % 65536) (h19 : z16 = z14 / 65536) (h20 : z17 = z15 + z16) (h21 : z18 = z3 + z17) : (z3 + z17 + 9223372036854775808) % 18446744073709551616 - 9223372036854775808 = z18 := by
  have a3 : 0 ≤ z3 ∧ z3 ≤ 65535 := rg _ _ h6
  have a4 : 0 ≤ z4 ∧ z4 ≤ 65535 := rg _ _ h7
  have a9 : 0 ≤ z9 ∧ z9 ≤ 65535 := rg _ _ h12
  have C := fd z14 z15 z16 z17 (sm _ _ _ h17 a4 a9).1 (sm _ _ _ h17 a4 a9).2 h18 h19 h20
  exact wr _ _ h21.symm (sm _ _ _ h21 a3 ⟨C.1, C.2.1⟩)

theorem o20 (a0 a1 a2 z3 z4 z5 z6 z7 z8 z9 z10 z11 z12 z13 z14 z15 z16 z17 z18 z19 : Int) (h0 : (-9223372036854775808 : Int) ≤ a0) (h1 : a0 ≤ (9223372036854775807 : Int)) (h2 : (-9223372036854775808 : Int) ≤ a1) (h3 : a1 ≤ (9223372036854775807 : Int)) (h4 : (-9223372036854775808 : Int) ≤ a2) (h5 : a2 ≤ (9223372036854775807 : Int)) (h6 : z3 = a0 % 65536) (h7 : z4 = a1 % 65536) (h8 : z5 = z3 + z4) (h9 : z6 = z5 % 65536) (h10 : z7 = z5 / 65536) (h11 : z8 = z6 + z7) (h12 : z9 = a2 % 65536) (h13 : z10 = z8 + z9) (h14 : z11 = z10 % 65536) (h15 : z12 = z10 / 65536) (h16 : z13 = z11 + z12) (h17 : z14 = z4 + z9) (h18 : z15 = z14 % 65536) (h19 : z16 = z14 / 65536) (h20 : z17 = z15 + z16) (h21 : z18 = z3 + z17) (h22 : z19 = z18 % 65536) : (z18 % 65536 + 9223372036854775808) % 18446744073709551616 - 9223372036854775808 = z19 := by
  have a3 : 0 ≤ z3 ∧ z3 ≤ 65535 := rg _ _ h6
  have a4 : 0 ≤ z4 ∧ z4 ≤ 65535 := rg _ _ h7
  have a9 : 0 ≤ z9 ∧ z9 ≤ 65535 := rg _ _ h12
  have C := fd z14 z15 z16 z17 (sm _ _ _ h17 a4 a9).1 (sm _ _ _ h17 a4 a9).2 h18 h19 h20
  have q := rg _ _ h22
  exact wr _ _ h22.symm ⟨q.1, Int.le_trans q.2 (by decide)⟩

theorem o21 (a0 a1 a2 z3 z4 z5 z6 z7 z8 z9 z10 z11 z12 z13 z14 z15 z16 z17 z18 z19 z20 : Int) (h0 : (-9223372036854775808 : Int) ≤ a0) (h1 : a0 ≤ (9223372036854775807 : Int)) (h2 : (-9223372036854775808 : Int) ≤ a1) (h3 : a1 ≤ (9223372036854775807 : Int)) (h4 : (-9223372036854775808 : Int) ≤ a2) (h5 : a2 ≤ (9223372036854775807 : Int)) (h6 : z3 = a0 % 65536) (h7 : z4 = a1 % 65536) (h8 : z5 = z3 + z4) (h9 : z6 = z5 % 65536) (h10 : z7 = z5 / 65536) (h11 : z8 = z6 + z7) (h12 : z9 = a2 % 65536) (h13 : z10 = z8 + z9) (h14 : z11 = z10 % 65536) (h15 : z12 = z10 / 65536) (h16 : z13 = z11 + z12) (h17 : z14 = z4 + z9) (h18 : z15 = z14 % 65536) (h19 : z16 = z14 / 65536) (h20 : z17 = z15 + z16) (h21 : z18 = z3 + z17) (h22 : z19 = z18 % 65536) (h23 : z20 = z18 / 65536) : z18 / 65536 = z20 := by
  have a3 : 0 ≤ z3 ∧ z3 ≤ 65535 := rg _ _ h6
  have a4 : 0 ≤ z4 ∧ z4 ≤ 65535 := rg _ _ h7
  have a9 : 0 ≤ z9 ∧ z9 ≤ 65535 := rg _ _ h12
  have C := fd z14 z15 z16 z17 (sm _ _ _ h17 a4 a9).1 (sm _ _ _ h17 a4 a9).2 h18 h19 h20
  exact h23.symm

theorem o22 (a0 a1 a2 z3 z4 z5 z6 z7 z8 z9 z10 z11 z12 z13 z14 z15 z16 z17 z18 z19 z20 : Int) (h0 : (-9223372036854775808 : Int) ≤ a0) (h1 : a0 ≤ (9223372036854775807 : Int)) (h2 : (-9223372036854775808 : Int) ≤ a1) (h3 : a1 ≤ (9223372036854775807 : Int)) (h4 : (-9223372036854775808 : Int) ≤ a2) (h5 : a2 ≤ (9223372036854775807 : Int)) (h6 : z3 = a0 % 65536) (h7 : z4 = a1 % 65536) (h8 : z5 = z3 + z4) (h9 : z6 = z5 % 65536) (h10 : z7 = z5 / 65536) (h11 : z8 = z6 + z7) (h12 : z9 = a2 % 65536) (h13 : z10 = z8 + z9) (h14 : z11 = z10 % 65536) (h15 : z12 = z10 / 65536) (h16 : z13 = z11 + z12) (h17 : z14 = z4 + z9) (h18 : z15 = z14 % 65536) (h19 : z16 = z14 / 65536) (h20 : z17 = z15 + z16) (h21 : z18 = z3 + z17) (h22 : z19 = z18 % 65536) (h23 : z20 = z18 / 65536) : (z19 + z20 + 9223372036854775808) % 18446744073709551616 - 9223372036854775808 = z13 := by
  have a3 : 0 ≤ z3 ∧ z3 ≤ 65535 := rg _ _ h6
  have a4 : 0 ≤ z4 ∧ z4 ≤ 65535 := rg _ _ h7
  have a9 : 0 ≤ z9 ∧ z9 ≤ 65535 := rg _ _ h12
  have C := fd z14 z15 z16 z17 (sm _ _ _ h17 a4 a9).1 (sm _ _ _ h17 a4 a9).2 h18 h19 h20
  have A := fd z5 z6 z7 z8 (sm _ _ _ h8 a3 a4).1 (sm _ _ _ h8 a3 a4).2 h9 h10 h11
  have B := fd z10 z11 z12 z13 (sm _ _ _ h13 ⟨A.1, A.2.1⟩ a9).1 (sm _ _ _ h13 ⟨A.1, A.2.1⟩ a9).2 h14 h15 h16
  have D := fd z18 z19 z20 (z19 + z20) (sm _ _ _ h21 a3 ⟨C.1, C.2.1⟩).1 (sm _ _ _ h21 a3 ⟨C.1, C.2.1⟩).2 h22 h23 rfl
  have e := as5 z3 z4 z9 z5 z8 z10 z13 z14 z17 z18 (z19 + z20) a3.1 a3.2 a4.1 a4.2 a9.1 a9.2 h8 h13 h17 h21 A B C D
  exact wr _ _ e ⟨B.1, by have := B.2.1; exact Int.le_trans this (by decide)⟩

theorem o23 (a0 a1 a2 z3 z4 z5 z6 z7 z8 z9 z10 z11 z12 z13 z14 z15 z16 z17 z18 z19 z20 : Int) (h0 : (-9223372036854775808 : Int) ≤ a0) (h1 : a0 ≤ (9223372036854775807 : Int)) (h2 : (-9223372036854775808 : Int) ≤ a1) (h3 : a1 ≤ (9223372036854775807 : Int)) (h4 : (-9223372036854775808 : Int) ≤ a2) (h5 : a2 ≤ (9223372036854775807 : Int)) (h6 : z3 = a0 % 65536) (h7 : z4 = a1 % 65536) (h8 : z5 = z3 + z4) (h9 : z6 = z5 % 65536) (h10 : z7 = z5 / 65536) (h11 : z8 = z6 + z7) (h12 : z9 = a2 % 65536) (h13 : z10 = z8 + z9) (h14 : z11 = z10 % 65536) (h15 : z12 = z10 / 65536) (h16 : z13 = z11 + z12) (h17 : z14 = z4 + z9) (h18 : z15 = z14 % 65536) (h19 : z16 = z14 / 65536) (h20 : z17 = z15 + z16) (h21 : z18 = z3 + z17) (h22 : z19 = z18 % 65536) (h23 : z20 = z18 / 65536) : z13 = z13 := rfl

theorem o24 (a0 z3 : Int) (h0 : (-9223372036854775808 : Int) ≤ a0) (h1 : a0 ≤ (9223372036854775807 : Int)) (h2 : z3 = a0 % 65536) : (z3 + (0 : Int) + 9223372036854775808) % 18446744073709551616 - 9223372036854775808 = z3 := by omega

theorem o25 (a0 z3 : Int) (h0 : (-9223372036854775808 : Int) ≤ a0) (h1 : a0 ≤ (9223372036854775807 : Int)) (h2 : z3 = a0 % 65536) : (z3 % 65536 + 9223372036854775808) % 18446744073709551616 - 9223372036854775808 = z3 := by omega

theorem o26 (a0 z3 : Int) (h0 : (-9223372036854775808 : Int) ≤ a0) (h1 : a0 ≤ (9223372036854775807 : Int)) (h2 : z3 = a0 % 65536) : z3 / 65536 = (0 : Int) := by omega

theorem o27 (a0 z3 : Int) (h0 : (-9223372036854775808 : Int) ≤ a0) (h1 : a0 ≤ (9223372036854775807 : Int)) (h2 : z3 = a0 % 65536) : z3 = z3 := by omega

theorem t0 (a0 a1 a2 : Int) (l0 : (-9223372036854775808 : Int) ≤ a0) (u0 : a0 ≤ (9223372036854775807 : Int)) (l1 : (-9223372036854775808 : Int) ≤ a1) (u1 : a1 ≤ (9223372036854775807 : Int)) (l2 : (-9223372036854775808 : Int) ≤ a2) (u2 : a2 ≤ (9223372036854775807 : Int)) : R0.holds [a0, a1, a2] := by
  obtain ⟨z3, e3⟩ : ∃ z : Int, z = a0 % 65536 := ⟨_, rfl⟩
  refine Pt.h_new (v_and 16 65536 rfl rfl (by decide) (by decide) ((wrap_i64 _).trans (o0 a0 z3 l0 u0 e3))) (show _ = [a0, a1, a2, z3] from rfl) ?_
  obtain ⟨z4, e4⟩ : ∃ z : Int, z = a1 % 65536 := ⟨_, rfl⟩
  refine Pt.h_new (v_and 16 65536 rfl rfl (by decide) (by decide) ((wrap_i64 _).trans (o1 a1 z4 l1 u1 e4))) (show _ = [a0, a1, a2, z3, z4] from rfl) ?_
  obtain ⟨z5, e5⟩ : ∃ z : Int, z = z3 + z4 := ⟨_, rfl⟩
  refine Pt.h_new (v_add rfl rfl  ((wrap_i64 _).trans (o2 a0 a1 z3 z4 z5 l0 u0 l1 u1 e3 e4 e5))) (show _ = [a0, a1, a2, z3, z4, z5] from rfl) ?_
  obtain ⟨z6, e6⟩ : ∃ z : Int, z = z5 % 65536 := ⟨_, rfl⟩
  refine Pt.h_new (v_and 16 65536 rfl rfl (by decide) (by decide) ((wrap_i64 _).trans (o3 a0 a1 z3 z4 z5 z6 l0 u0 l1 u1 e3 e4 e5 e6))) (show _ = [a0, a1, a2, z3, z4, z5, z6] from rfl) ?_
  obtain ⟨z7, e7⟩ : ∃ z : Int, z = z5 / 65536 := ⟨_, rfl⟩
  refine Pt.h_new (v_shr 16 65536 rfl rfl (by decide) (by decide) ((o4 a0 a1 z3 z4 z5 z6 z7 l0 u0 l1 u1 e3 e4 e5 e6 e7))) (show _ = [a0, a1, a2, z3, z4, z5, z6, z7] from rfl) ?_
  obtain ⟨z8, e8⟩ : ∃ z : Int, z = z6 + z7 := ⟨_, rfl⟩
  refine Pt.h_new (v_add rfl rfl  ((wrap_i64 _).trans (o5 a0 a1 z3 z4 z5 z6 z7 z8 l0 u0 l1 u1 e3 e4 e5 e6 e7 e8))) (show _ = [a0, a1, a2, z3, z4, z5, z6, z7, z8] from rfl) ?_
  refine Pt.h_is (v_add rfl rfl  ((wrap_i64 _).trans (o6 a0 a1 z3 z4 z5 z6 z7 z8 l0 u0 l1 u1 e3 e4 e5 e6 e7 e8))) ?_
  refine Pt.h_yes (show z8 = z8 from (o7 a0 a1 z3 z4 z5 z6 z7 z8 l0 u0 l1 u1 e3 e4 e5 e6 e7 e8)) ?_
  refine Pt.h_is (v_and 16 65536 rfl rfl (by decide) (by decide) ((wrap_i64 _).trans (o8 a0 a1 z3 z4 z5 z6 z7 z8 l0 u0 l1 u1 e3 e4 e5 e6 e7 e8))) ?_
  obtain ⟨z9, e9⟩ : ∃ z : Int, z = a2 % 65536 := ⟨_, rfl⟩
  refine Pt.h_new (v_and 16 65536 rfl rfl (by decide) (by decide) ((wrap_i64 _).trans (o9 a2 z9 l2 u2 e9))) (show _ = [a0, a1, a2, z3, z4, z5, z6, z7, z8, z9] from rfl) ?_
  obtain ⟨z10, e10⟩ : ∃ z : Int, z = z8 + z9 := ⟨_, rfl⟩
  refine Pt.h_new (v_add rfl rfl  ((wrap_i64 _).trans (o10 a0 a1 a2 z3 z4 z5 z6 z7 z8 z9 z10 l0 u0 l1 u1 l2 u2 e3 e4 e5 e6 e7 e8 e9 e10))) (show _ = [a0, a1, a2, z3, z4, z5, z6, z7, z8, z9, z10] from rfl) ?_
  obtain ⟨z11, e11⟩ : ∃ z : Int, z = z10 % 65536 := ⟨_, rfl⟩
  refine Pt.h_new (v_and 16 65536 rfl rfl (by decide) (by decide) ((wrap_i64 _).trans (o11 a0 a1 a2 z3 z4 z5 z6 z7 z8 z9 z10 z11 l0 u0 l1 u1 l2 u2 e3 e4 e5 e6 e7 e8 e9 e10 e11))) (show _ = [a0, a1, a2, z3, z4, z5, z6, z7, z8, z9, z10, z11] from rfl) ?_
  obtain ⟨z12, e12⟩ : ∃ z : Int, z = z10 / 65536 := ⟨_, rfl⟩
  refine Pt.h_new (v_shr 16 65536 rfl rfl (by decide) (by decide) ((o12 a0 a1 a2 z3 z4 z5 z6 z7 z8 z9 z10 z11 z12 l0 u0 l1 u1 l2 u2 e3 e4 e5 e6 e7 e8 e9 e10 e11 e12))) (show _ = [a0, a1, a2, z3, z4, z5, z6, z7, z8, z9, z10, z11, z12] from rfl) ?_
  obtain ⟨z13, e13⟩ : ∃ z : Int, z = z11 + z12 := ⟨_, rfl⟩
  refine Pt.h_new (v_add rfl rfl  ((wrap_i64 _).trans (o13 a0 a1 a2 z3 z4 z5 z6 z7 z8 z9 z10 z11 z12 z13 l0 u0 l1 u1 l2 u2 e3 e4 e5 e6 e7 e8 e9 e10 e11 e12 e13))) (show _ = [a0, a1, a2, z3, z4, z5, z6, z7, z8, z9, z10, z11, z12, z13] from rfl) ?_
  obtain ⟨z14, e14⟩ : ∃ z : Int, z = z4 + z9 := ⟨_, rfl⟩
  refine Pt.h_new (v_add rfl rfl  ((wrap_i64 _).trans (o14 a1 a2 z4 z9 z14 l1 u1 l2 u2 e4 e9 e14))) (show _ = [a0, a1, a2, z3, z4, z5, z6, z7, z8, z9, z10, z11, z12, z13, z14] from rfl) ?_
  obtain ⟨z15, e15⟩ : ∃ z : Int, z = z14 % 65536 := ⟨_, rfl⟩
  refine Pt.h_new (v_and 16 65536 rfl rfl (by decide) (by decide) ((wrap_i64 _).trans (o15 a1 a2 z4 z9 z14 z15 l1 u1 l2 u2 e4 e9 e14 e15))) (show _ = [a0, a1, a2, z3, z4, z5, z6, z7, z8, z9, z10, z11, z12, z13, z14, z15] from rfl) ?_
  obtain ⟨z16, e16⟩ : ∃ z : Int, z = z14 / 65536 := ⟨_, rfl⟩
  refine Pt.h_new (v_shr 16 65536 rfl rfl (by decide) (by decide) ((o16 a1 a2 z4 z9 z14 z15 z16 l1 u1 l2 u2 e4 e9 e14 e15 e16))) (show _ = [a0, a1, a2, z3, z4, z5, z6, z7, z8, z9, z10, z11, z12, z13, z14, z15, z16] from rfl) ?_
  obtain ⟨z17, e17⟩ : ∃ z : Int, z = z15 + z16 := ⟨_, rfl⟩
  refine Pt.h_new (v_add rfl rfl  ((wrap_i64 _).trans (o17 a1 a2 z4 z9 z14 z15 z16 z17 l1 u1 l2 u2 e4 e9 e14 e15 e16 e17))) (show _ = [a0, a1, a2, z3, z4, z5, z6, z7, z8, z9, z10, z11, z12, z13, z14, z15, z16, z17] from rfl) ?_
  refine Pt.h_is (v_and 16 65536 rfl rfl (by decide) (by decide) ((wrap_i64 _).trans (o18 a1 a2 z4 z9 z14 z15 z16 z17 l1 u1 l2 u2 e4 e9 e14 e15 e16 e17))) ?_
  obtain ⟨z18, e18⟩ : ∃ z : Int, z = z3 + z17 := ⟨_, rfl⟩
  refine Pt.h_new (v_add rfl rfl  ((wrap_i64 _).trans (o19 a0 a1 a2 z3 z4 z5 z6 z7 z8 z9 z10 z11 z12 z13 z14 z15 z16 z17 z18 l0 u0 l1 u1 l2 u2 e3 e4 e5 e6 e7 e8 e9 e10 e11 e12 e13 e14 e15 e16 e17 e18))) (show _ = [a0, a1, a2, z3, z4, z5, z6, z7, z8, z9, z10, z11, z12, z13, z14, z15, z16, z17, z18] from rfl) ?_
  obtain ⟨z19, e19⟩ : ∃ z : Int, z = z18 % 65536 := ⟨_, rfl⟩
  refine Pt.h_new (v_and 16 65536 rfl rfl (by decide) (by decide) ((wrap_i64 _).trans (o20 a0 a1 a2 z3 z4 z5 z6 z7 z8 z9 z10 z11 z12 z13 z14 z15 z16 z17 z18 z19 l0 u0 l1 u1 l2 u2 e3 e4 e5 e6 e7 e8 e9 e10 e11 e12 e13 e14 e15 e16 e17 e18 e19))) (show _ = [a0, a1, a2, z3, z4, z5, z6, z7, z8, z9, z10, z11, z12, z13, z14, z15, z16, z17, z18, z19] from rfl) ?_
  obtain ⟨z20, e20⟩ : ∃ z : Int, z = z18 / 65536 := ⟨_, rfl⟩
  refine Pt.h_new (v_shr 16 65536 rfl rfl (by decide) (by decide) ((o21 a0 a1 a2 z3 z4 z5 z6 z7 z8 z9 z10 z11 z12 z13 z14 z15 z16 z17 z18 z19 z20 l0 u0 l1 u1 l2 u2 e3 e4 e5 e6 e7 e8 e9 e10 e11 e12 e13 e14 e15 e16 e17 e18 e19 e20))) (show _ = [a0, a1, a2, z3, z4, z5, z6, z7, z8, z9, z10, z11, z12, z13, z14, z15, z16, z17, z18, z19, z20] from rfl) ?_
  refine Pt.h_is (v_add rfl rfl  ((wrap_i64 _).trans (o22 a0 a1 a2 z3 z4 z5 z6 z7 z8 z9 z10 z11 z12 z13 z14 z15 z16 z17 z18 z19 z20 l0 u0 l1 u1 l2 u2 e3 e4 e5 e6 e7 e8 e9 e10 e11 e12 e13 e14 e15 e16 e17 e18 e19 e20))) ?_
  refine Pt.h_yes (show z13 = z13 from (o23 a0 a1 a2 z3 z4 z5 z6 z7 z8 z9 z10 z11 z12 z13 z14 z15 z16 z17 z18 z19 z20 l0 u0 l1 u1 l2 u2 e3 e4 e5 e6 e7 e8 e9 e10 e11 e12 e13 e14 e15 e16 e17 e18 e19 e20)) ?_
  refine Pt.h_is (v_add rfl rfl  ((wrap_i64 _).trans (o24 a0 z3 l0 u0 e3))) ?_
  refine Pt.h_is (v_and 16 65536 rfl rfl (by decide) (by decide) ((wrap_i64 _).trans (o25 a0 z3 l0 u0 e3))) ?_
  refine Pt.h_is (v_shr 16 65536 rfl rfl (by decide) (by decide) ((o26 a0 z3 l0 u0 e3))) ?_
  refine Pt.h_yes (show z3 = z3 from (o27 a0 z3 l0 u0 e3)) ?_
  exact Pt.h_done

theorem rest : auto T0 [(-9223372036854775808, 9223372036854775807), (-9223372036854775808, 9223372036854775807), (-9223372036854775808, 9223372036854775807)] = R0 := by kernel_rfl
theorem all (a0 a1 a2 : Int) (l0 : (-9223372036854775808 : Int) ≤ a0) (u0 : a0 ≤ (9223372036854775807 : Int)) (l1 : (-9223372036854775808 : Int) ≤ a1) (u1 : a1 ≤ (9223372036854775807 : Int)) (l2 : (-9223372036854775808 : Int) ≤ a2) (u2 : a2 ≤ (9223372036854775807 : Int)) : T0.holds [a0, a1, a2] :=
  holds_auto rest (fits_cons l0 u0 (fits_cons l1 u1 (fits_cons l2 u2 fits_nil))) (t0 a0 a1 a2 l0 u0 l1 u1 l2 u2)

end Go.Proofs.Ythmnfjaogoennaa.sumAdds
