/- PmpOthers: what its run asks, and that it holds. -/
import Derived.Test.YtfkbofbdonmpfaaSy11
set_option linter.unusedSimpArgs false
set_option linter.unusedVariables false
set_option linter.unusedSectionVars false
set_option linter.unnecessarySimpa false
namespace Go.Proofs.Ytfkbofbdonmpfaa.pmpOthers
open Go.Am

def T0 : Pt := (.yes (.lt (.c 0) (.v 2)) (.yes (.le (.c 1) (.v 0)) (.yes (.le (.v 0) (.c 65535)) (.no (.eq (.v 1) (.c 1024)) (.yes (.lt (.c 0) (.v 2)) (.no (.eq (.v 1) (.c 1024)) (.is (.sh .shr .i64 (.v 0) (.c 8)) (.v 3) (.is (.wr .u8 (.v 3)) (.v 3) (.is (.wr .u8 (.v 0)) (.v 4) (.is (.sh .shr .u32 (.v 2) (.c 24)) (.c 0) (.is (.sh .shr .u32 (.v 2) (.c 16)) (.v 7) (.is (.wr .u8 (.v 7)) (.v 7) (.is (.sh .shr .u32 (.v 2) (.c 8)) (.v 8) (.is (.wr .u8 (.v 8)) (.v 9) (.is (.wr .u8 (.v 2)) (.v 10) (.yes (.eq (.v 1) (.v 1)) (.yes (.lt (.c 0) (.v 2)) (.is (.wr .i64 (.v 2)) (.v 2) (.yes (.eq (.v 2) (.v 2)) (.yes (.eq (.v 1) (.v 1)) (.yes (.eq (.v 0) (.v 0)) (.yes (.eq (.v 2) (.v 2)) .done))))))))))))))))))))))
def T1 : Pt := (.yes (.lt (.c 0) (.v 2)) (.yes (.le (.c 1) (.v 15)) (.yes (.le (.v 15) (.c 65535)) (.yes (.le (.c 1) (.v 0)) (.yes (.le (.v 0) (.c 65535)) (.no (.eq (.v 1) (.v 15)) (.yes (.lt (.c 0) (.v 2)) (.no (.eq (.v 1) (.v 15)) (.is (.sh .shr .i64 (.v 0) (.c 8)) (.v 3) (.is (.wr .u8 (.v 3)) (.v 3) (.is (.wr .u8 (.v 0)) (.v 4) (.new (.sh .shr .i64 (.v 15) (.c 8)) (.is (.wr .u8 (.v 16)) (.v 16) (.new (.wr .u8 (.v 15)) (.is (.sh .shr .u32 (.v 2) (.c 24)) (.c 0) (.is (.sh .shr .u32 (.v 2) (.c 16)) (.v 7) (.is (.wr .u8 (.v 7)) (.v 7) (.is (.sh .shr .u32 (.v 2) (.c 8)) (.v 8) (.is (.wr .u8 (.v 8)) (.v 9) (.is (.wr .u8 (.v 2)) (.v 10) (.yes (.eq (.v 1) (.v 1)) (.yes (.lt (.c 0) (.v 2)) (.is (.wr .i64 (.v 2)) (.v 2) (.yes (.eq (.v 2) (.v 2)) (.yes (.eq (.v 1) (.v 1)) (.yes (.eq (.v 0) (.v 0)) (.yes (.eq (.v 2) (.v 2)) .done)))))))))))))))))))))))))))
def T2 : Pt := (.is (.wr .u8 (.v 7)) (.v 7) (.is (.sh .shr .u32 (.v 2) (.c 8)) (.v 8) (.is (.wr .u8 (.v 8)) (.v 9) (.is (.wr .u8 (.v 2)) (.v 10) (.is (.wr .u32 (.v 3)) (.v 3) (.is (.ib .or .u32 (.c 0) (.v 3)) (.v 3) (.is (.sh .shl .u32 (.v 3) (.c 8)) (.v 11) (.is (.wr .u32 (.v 4)) (.v 4) (.is (.ib .or .u32 (.v 11) (.v 4)) (.v 0) (.is (.wr .i64 (.v 0)) (.v 0) (.is (.wr .u32 (.v 5)) (.v 5) (.is (.ib .or .u32 (.c 0) (.v 5)) (.v 5) (.is (.sh .shl .u32 (.v 5) (.c 8)) (.v 12) (.is (.wr .u32 (.v 6)) (.v 6) (.is (.ib .or .u32 (.v 12) (.v 6)) (.v 1) (.is (.wr .i64 (.v 1)) (.v 1) (.is (.wr .u32 (.v 7)) (.v 7) (.is (.ib .or .u32 (.c 0) (.v 7)) (.v 7) (.is (.sh .shl .u32 (.v 7) (.c 8)) (.v 13) (.is (.wr .u32 (.v 9)) (.v 9) (.is (.ib .or .u32 (.v 13) (.v 9)) (.v 8) (.is (.sh .shl .u32 (.v 8) (.c 8)) (.v 14) (.is (.wr .u32 (.v 10)) (.v 10) (.is (.ib .or .u32 (.v 14) (.v 10)) (.v 2) (.no (.eq (.v 2) (.c 0)) (.no (.eq (.v 0) (.c 0)) (.no (.lt (.c 86400) (.v 2)) (.is (.wr .i64 (.v 2)) (.v 2) (.is (.ib .add .i64 (.c 0) (.v 2)) (.v 2) (.yes (.lt (.c 0) (.v 2)) (.no (.eq (.v 1) (.c 0)) (.yes (.lt (.c 0) (.v 2)) (.yes (.le (.c 1) (.v 1)) (.yes (.le (.v 1) (.c 65535)) (.yes (.le (.c 1) (.v 0)) (.yes (.le (.v 0) (.c 65535)) (.yes (.eq (.v 1) (.v 1)) (.yes (.lt (.c 0) (.v 2)) (.new (.ib .add .i64 (.v 1) (.c 1)) (.fork (.lt (.c 65535) (.v 15)) T0 T1))))))))))))))))))))))))))))))))))))))))
def T3 : Pt := (.new (.sh .shr .i64 (.v 0) (.c 8)) (.is (.wr .u8 (.v 3)) (.v 3) (.new (.wr .u8 (.v 0)) (.new (.sh .shr .i64 (.v 1) (.c 8)) (.is (.wr .u8 (.v 5)) (.v 5) (.new (.wr .u8 (.v 1)) (.is (.sh .shr .u32 (.v 2) (.c 24)) (.c 0) (.new (.sh .shr .u32 (.v 2) (.c 16)) (.is (.wr .u8 (.v 7)) (.v 7) (.new (.sh .shr .u32 (.v 2) (.c 8)) (.new (.wr .u8 (.v 8)) (.new (.wr .u8 (.v 2)) (.is (.wr .u32 (.v 3)) (.v 3) (.is (.ib .or .u32 (.c 0) (.v 3)) (.v 3) (.new (.sh .shl .u32 (.v 3) (.c 8)) (.is (.wr .u32 (.v 4)) (.v 4) (.is (.ib .or .u32 (.v 11) (.v 4)) (.v 0) (.is (.wr .i64 (.v 0)) (.v 0) (.is (.wr .u32 (.v 5)) (.v 5) (.is (.ib .or .u32 (.c 0) (.v 5)) (.v 5) (.new (.sh .shl .u32 (.v 5) (.c 8)) (.is (.wr .u32 (.v 6)) (.v 6) (.is (.ib .or .u32 (.v 12) (.v 6)) (.v 1) (.is (.wr .i64 (.v 1)) (.v 1) (.is (.wr .u32 (.v 7)) (.v 7) (.is (.ib .or .u32 (.c 0) (.v 7)) (.v 7) (.new (.sh .shl .u32 (.v 7) (.c 8)) (.is (.wr .u32 (.v 9)) (.v 9) (.is (.ib .or .u32 (.v 13) (.v 9)) (.v 8) (.new (.sh .shl .u32 (.v 8) (.c 8)) (.is (.wr .u32 (.v 10)) (.v 10) (.is (.ib .or .u32 (.v 14) (.v 10)) (.v 2) (.no (.eq (.v 2) (.c 0)) (.no (.eq (.v 0) (.c 0)) (.no (.lt (.c 86400) (.v 2)) (.is (.wr .i64 (.v 2)) (.v 2) (.is (.ib .add .i64 (.c 0) (.v 2)) (.v 2) (.no (.eq (.v 1) (.c 0)) (.yes (.lt (.c 0) (.v 2)) (.yes (.le (.c 1) (.v 1)) (.yes (.le (.v 1) (.c 65535)) (.yes (.le (.c 1) (.v 0)) (.yes (.le (.v 0) (.c 65535)) (.is (.sh .shr .i64 (.v 0) (.c 8)) (.v 3) (.is (.wr .u8 (.v 3)) (.v 3) (.is (.wr .u8 (.v 0)) (.v 4) (.is (.sh .shr .i64 (.v 1) (.c 8)) (.v 5) (.is (.wr .u8 (.v 5)) (.v 5) (.is (.wr .u8 (.v 1)) (.v 6) (.is (.sh .shr .u32 (.v 2) (.c 24)) (.c 0) (.is (.sh .shr .u32 (.v 2) (.c 16)) (.v 7) (.is (.wr .u8 (.v 7)) (.v 7) (.is (.sh .shr .u32 (.v 2) (.c 8)) (.v 8) (.is (.wr .u8 (.v 8)) (.v 9) (.is (.wr .u8 (.v 2)) (.v 10) (.is (.sh .shr .i64 (.v 0) (.c 8)) (.v 3) (.is (.wr .u8 (.v 3)) (.v 3) (.is (.wr .u8 (.v 0)) (.v 4) (.is (.wr .u32 (.v 3)) (.v 3) (.is (.ib .or .u32 (.c 0) (.v 3)) (.v 3) (.is (.sh .shl .u32 (.v 3) (.c 8)) (.v 11) (.is (.wr .u32 (.v 4)) (.v 4) (.is (.ib .or .u32 (.v 11) (.v 4)) (.v 0) (.is (.wr .i64 (.v 0)) (.v 0) (.yes (.lt (.c 0) (.v 2)) (.is (.sh .shr .i64 (.v 0) (.c 8)) (.v 3) (.is (.wr .u8 (.v 3)) (.v 3) (.is (.wr .u8 (.v 0)) (.v 4) (.yes (.lt (.c 0) (.v 2)) (.yes (.lt (.c 0) (.v 2)) (.yes (.eq (.v 1) (.v 1)) (.yes (.lt (.c 0) (.v 2)) (.is (.sh .shr .i64 (.v 0) (.c 8)) (.v 3) (.is (.wr .u8 (.v 3)) (.v 3) (.is (.wr .u8 (.v 0)) (.v 4) (.is (.sh .shr .i64 (.v 1) (.c 8)) (.v 5) (.is (.wr .u8 (.v 5)) (.v 5) (.is (.wr .u8 (.v 1)) (.v 6) (.is (.sh .shr .u32 (.v 2) (.c 24)) (.c 0) (.is (.sh .shr .u32 (.v 2) (.c 16)) (.v 7) T2))))))))))))))))))))))))))))))))))))))))))))))))))))))))))))))))))))))))))))))))
def T4 : Pt := (.fork (.lt (.c 86400) (.v 2)) .done T3)
def T5 : Pt := (.fork (.lt (.v 2) (.c 1)) .done T4)
def T6 : Pt := (.fork (.lt (.c 65535) (.v 1)) .done T5)
def T7 : Pt := (.fork (.lt (.v 1) (.c 1)) .done T6)
def T8 : Pt := (.fork (.lt (.c 65535) (.v 0)) .done T7)
def T9 : Pt := (.fork (.lt (.v 0) (.c 1)) .done T8)

theorem o0 (a0 z3 : Int) (h0 : (-9223372036854775808) ≤ a0) (h1 : a0 ≤ 9223372036854775807) (h2 : ¬ a0 < 1) (h3 : ¬ 65535 < a0) (h4 : z3 = a0 / 256) : a0 / 256 = z3 := by omega
theorem o1 (a0 z3 : Int) (h0 : (-9223372036854775808) ≤ a0) (h1 : a0 ≤ 9223372036854775807) (h2 : ¬ a0 < 1) (h3 : ¬ 65535 < a0) (h4 : z3 = a0 / 256) : (z3) % 256 = z3 := by omega
theorem o2 (a0 z3 z4 : Int) (h0 : (-9223372036854775808) ≤ a0) (h1 : a0 ≤ 9223372036854775807) (h2 : ¬ a0 < 1) (h3 : ¬ 65535 < a0) (h4 : z3 = a0 / 256) (h5 : z4 = (a0) % 256) : (a0) % 256 = z4 := by omega
theorem o3 (a1 z5 : Int) (h0 : (-9223372036854775808) ≤ a1) (h1 : a1 ≤ 9223372036854775807) (h2 : ¬ a1 < 1) (h3 : ¬ 65535 < a1) (h4 : z5 = a1 / 256) : a1 / 256 = z5 := by omega
theorem o4 (a1 z5 : Int) (h0 : (-9223372036854775808) ≤ a1) (h1 : a1 ≤ 9223372036854775807) (h2 : ¬ a1 < 1) (h3 : ¬ 65535 < a1) (h4 : z5 = a1 / 256) : (z5) % 256 = z5 := by omega
theorem o5 (a1 z5 z6 : Int) (h0 : (-9223372036854775808) ≤ a1) (h1 : a1 ≤ 9223372036854775807) (h2 : ¬ a1 < 1) (h3 : ¬ 65535 < a1) (h4 : z5 = a1 / 256) (h5 : z6 = (a1) % 256) : (a1) % 256 = z6 := by omega
theorem o6 (a2 : Int) (h0 : 0 ≤ a2) (h1 : a2 ≤ 4294967295) (h2 : ¬ a2 < 1) (h3 : ¬ 86400 < a2) : a2 / 16777216 = 0 := by omega
theorem o7 (a2 z7 : Int) (h0 : 0 ≤ a2) (h1 : a2 ≤ 4294967295) (h2 : ¬ a2 < 1) (h3 : ¬ 86400 < a2) (h4 : z7 = a2 / 65536) : a2 / 65536 = z7 := by omega
theorem o8 (a2 z7 : Int) (h0 : 0 ≤ a2) (h1 : a2 ≤ 4294967295) (h2 : ¬ a2 < 1) (h3 : ¬ 86400 < a2) (h4 : z7 = a2 / 65536) : (z7) % 256 = z7 := by omega
theorem o9 (a2 z7 z8 : Int) (h0 : 0 ≤ a2) (h1 : a2 ≤ 4294967295) (h2 : ¬ a2 < 1) (h3 : ¬ 86400 < a2) (h4 : z7 = a2 / 65536) (h5 : z8 = a2 / 256) : a2 / 256 = z8 := by omega
theorem o10 (a2 z7 z8 z9 : Int) (h0 : 0 ≤ a2) (h1 : a2 ≤ 4294967295) (h2 : ¬ a2 < 1) (h3 : ¬ 86400 < a2) (h4 : z7 = a2 / 65536) (h5 : z8 = a2 / 256) (h6 : z9 = (z8) % 256) : (z8) % 256 = z9 := by omega
theorem o11 (a2 z7 z8 z9 z10 : Int) (h0 : 0 ≤ a2) (h1 : a2 ≤ 4294967295) (h2 : ¬ a2 < 1) (h3 : ¬ 86400 < a2) (h4 : z7 = a2 / 65536) (h5 : z8 = a2 / 256) (h6 : z9 = (z8) % 256) (h7 : z10 = (a2) % 256) : (a2) % 256 = z10 := by omega
theorem o12 (a0 z3 z4 : Int) (h0 : (-9223372036854775808) ≤ a0) (h1 : a0 ≤ 9223372036854775807) (h2 : ¬ a0 < 1) (h3 : ¬ 65535 < a0) (h4 : z3 = a0 / 256) (h5 : z4 = (a0) % 256) : (z3) % 4294967296 = z3 := by omega
theorem o13 (a0 z3 z4 : Int) (h0 : (-9223372036854775808) ≤ a0) (h1 : a0 ≤ 9223372036854775807) (h2 : ¬ a0 < 1) (h3 : ¬ 65535 < a0) (h4 : z3 = a0 / 256) (h5 : z4 = (a0) % 256) : 0 ≤ z3 := by omega
theorem o14 (a0 z3 z4 : Int) (h0 : (-9223372036854775808) ≤ a0) (h1 : a0 ≤ 9223372036854775807) (h2 : ¬ a0 < 1) (h3 : ¬ 65535 < a0) (h4 : z3 = a0 / 256) (h5 : z4 = (a0) % 256) : z3 < 4294967296 := by omega
theorem o15 (a0 z3 z4 z11 : Int) (h0 : (-9223372036854775808) ≤ a0) (h1 : a0 ≤ 9223372036854775807) (h2 : ¬ a0 < 1) (h3 : ¬ 65535 < a0) (h4 : z3 = a0 / 256) (h5 : z4 = (a0) % 256) (h6 : z11 = z3 * 256) : (z3 * 256) % 4294967296 = z11 := by omega
theorem o16 (a0 z3 z4 z11 : Int) (h0 : (-9223372036854775808) ≤ a0) (h1 : a0 ≤ 9223372036854775807) (h2 : ¬ a0 < 1) (h3 : ¬ 65535 < a0) (h4 : z3 = a0 / 256) (h5 : z4 = (a0) % 256) (h6 : z11 = z3 * 256) : (z4) % 4294967296 = z4 := by omega
theorem o17 (a0 z3 z4 z11 : Int) (h0 : (-9223372036854775808) ≤ a0) (h1 : a0 ≤ 9223372036854775807) (h2 : ¬ a0 < 1) (h3 : ¬ 65535 < a0) (h4 : z3 = a0 / 256) (h5 : z4 = (a0) % 256) (h6 : z11 = z3 * 256) : 0 ≤ z11 := by omega
theorem o18 (a0 z3 z4 z11 : Int) (h0 : (-9223372036854775808) ≤ a0) (h1 : a0 ≤ 9223372036854775807) (h2 : ¬ a0 < 1) (h3 : ¬ 65535 < a0) (h4 : z3 = a0 / 256) (h5 : z4 = (a0) % 256) (h6 : z11 = z3 * 256) : z11 < 4294967296 := by omega
theorem o19 (a0 z3 z4 z11 : Int) (h0 : (-9223372036854775808) ≤ a0) (h1 : a0 ≤ 9223372036854775807) (h2 : ¬ a0 < 1) (h3 : ¬ 65535 < a0) (h4 : z3 = a0 / 256) (h5 : z4 = (a0) % 256) (h6 : z11 = z3 * 256) : z11 % 256 = 0 := by omega
theorem o20 (a0 z3 z4 z11 : Int) (h0 : (-9223372036854775808) ≤ a0) (h1 : a0 ≤ 9223372036854775807) (h2 : ¬ a0 < 1) (h3 : ¬ 65535 < a0) (h4 : z3 = a0 / 256) (h5 : z4 = (a0) % 256) (h6 : z11 = z3 * 256) : 0 ≤ z4 := by omega
theorem o21 (a0 z3 z4 z11 : Int) (h0 : (-9223372036854775808) ≤ a0) (h1 : a0 ≤ 9223372036854775807) (h2 : ¬ a0 < 1) (h3 : ¬ 65535 < a0) (h4 : z3 = a0 / 256) (h5 : z4 = (a0) % 256) (h6 : z11 = z3 * 256) : z4 < 256 := by omega
theorem o22 (a0 z3 z4 z11 : Int) (h0 : (-9223372036854775808) ≤ a0) (h1 : a0 ≤ 9223372036854775807) (h2 : ¬ a0 < 1) (h3 : ¬ 65535 < a0) (h4 : z3 = a0 / 256) (h5 : z4 = (a0) % 256) (h6 : z11 = z3 * 256) : (z11 + z4) % 4294967296 = a0 := by omega
theorem o23 (a0 z3 z4 z11 : Int) (h0 : (-9223372036854775808) ≤ a0) (h1 : a0 ≤ 9223372036854775807) (h2 : ¬ a0 < 1) (h3 : ¬ 65535 < a0) (h4 : z3 = a0 / 256) (h5 : z4 = (a0) % 256) (h6 : z11 = z3 * 256) : (a0 + 9223372036854775808) % 18446744073709551616 - 9223372036854775808 = a0 := by omega
theorem o24 (a1 z5 z6 : Int) (h0 : (-9223372036854775808) ≤ a1) (h1 : a1 ≤ 9223372036854775807) (h2 : ¬ a1 < 1) (h3 : ¬ 65535 < a1) (h4 : z5 = a1 / 256) (h5 : z6 = (a1) % 256) : (z5) % 4294967296 = z5 := by omega
theorem o25 (a1 z5 z6 : Int) (h0 : (-9223372036854775808) ≤ a1) (h1 : a1 ≤ 9223372036854775807) (h2 : ¬ a1 < 1) (h3 : ¬ 65535 < a1) (h4 : z5 = a1 / 256) (h5 : z6 = (a1) % 256) : 0 ≤ z5 := by omega
theorem o26 (a1 z5 z6 : Int) (h0 : (-9223372036854775808) ≤ a1) (h1 : a1 ≤ 9223372036854775807) (h2 : ¬ a1 < 1) (h3 : ¬ 65535 < a1) (h4 : z5 = a1 / 256) (h5 : z6 = (a1) % 256) : z5 < 4294967296 := by omega
theorem o27 (a1 z5 z6 z12 : Int) (h0 : (-9223372036854775808) ≤ a1) (h1 : a1 ≤ 9223372036854775807) (h2 : ¬ a1 < 1) (h3 : ¬ 65535 < a1) (h4 : z5 = a1 / 256) (h5 : z6 = (a1) % 256) (h6 : z12 = z5 * 256) : (z5 * 256) % 4294967296 = z12 := by omega
theorem o28 (a1 z5 z6 z12 : Int) (h0 : (-9223372036854775808) ≤ a1) (h1 : a1 ≤ 9223372036854775807) (h2 : ¬ a1 < 1) (h3 : ¬ 65535 < a1) (h4 : z5 = a1 / 256) (h5 : z6 = (a1) % 256) (h6 : z12 = z5 * 256) : (z6) % 4294967296 = z6 := by omega
theorem o29 (a1 z5 z6 z12 : Int) (h0 : (-9223372036854775808) ≤ a1) (h1 : a1 ≤ 9223372036854775807) (h2 : ¬ a1 < 1) (h3 : ¬ 65535 < a1) (h4 : z5 = a1 / 256) (h5 : z6 = (a1) % 256) (h6 : z12 = z5 * 256) : 0 ≤ z12 := by omega
theorem o30 (a1 z5 z6 z12 : Int) (h0 : (-9223372036854775808) ≤ a1) (h1 : a1 ≤ 9223372036854775807) (h2 : ¬ a1 < 1) (h3 : ¬ 65535 < a1) (h4 : z5 = a1 / 256) (h5 : z6 = (a1) % 256) (h6 : z12 = z5 * 256) : z12 < 4294967296 := by omega
theorem o31 (a1 z5 z6 z12 : Int) (h0 : (-9223372036854775808) ≤ a1) (h1 : a1 ≤ 9223372036854775807) (h2 : ¬ a1 < 1) (h3 : ¬ 65535 < a1) (h4 : z5 = a1 / 256) (h5 : z6 = (a1) % 256) (h6 : z12 = z5 * 256) : z12 % 256 = 0 := by omega
theorem o32 (a1 z5 z6 z12 : Int) (h0 : (-9223372036854775808) ≤ a1) (h1 : a1 ≤ 9223372036854775807) (h2 : ¬ a1 < 1) (h3 : ¬ 65535 < a1) (h4 : z5 = a1 / 256) (h5 : z6 = (a1) % 256) (h6 : z12 = z5 * 256) : 0 ≤ z6 := by omega
theorem o33 (a1 z5 z6 z12 : Int) (h0 : (-9223372036854775808) ≤ a1) (h1 : a1 ≤ 9223372036854775807) (h2 : ¬ a1 < 1) (h3 : ¬ 65535 < a1) (h4 : z5 = a1 / 256) (h5 : z6 = (a1) % 256) (h6 : z12 = z5 * 256) : z6 < 256 := by omega
theorem o34 (a1 z5 z6 z12 : Int) (h0 : (-9223372036854775808) ≤ a1) (h1 : a1 ≤ 9223372036854775807) (h2 : ¬ a1 < 1) (h3 : ¬ 65535 < a1) (h4 : z5 = a1 / 256) (h5 : z6 = (a1) % 256) (h6 : z12 = z5 * 256) : (z12 + z6) % 4294967296 = a1 := by omega
theorem o35 (a1 z5 z6 z12 : Int) (h0 : (-9223372036854775808) ≤ a1) (h1 : a1 ≤ 9223372036854775807) (h2 : ¬ a1 < 1) (h3 : ¬ 65535 < a1) (h4 : z5 = a1 / 256) (h5 : z6 = (a1) % 256) (h6 : z12 = z5 * 256) : (a1 + 9223372036854775808) % 18446744073709551616 - 9223372036854775808 = a1 := by omega
theorem o36 (a2 z7 z8 z9 z10 : Int) (h0 : 0 ≤ a2) (h1 : a2 ≤ 4294967295) (h2 : ¬ a2 < 1) (h3 : ¬ 86400 < a2) (h4 : z7 = a2 / 65536) (h5 : z8 = a2 / 256) (h6 : z9 = (z8) % 256) (h7 : z10 = (a2) % 256) : (z7) % 4294967296 = z7 := by omega
theorem o37 (a2 z7 z8 z9 z10 : Int) (h0 : 0 ≤ a2) (h1 : a2 ≤ 4294967295) (h2 : ¬ a2 < 1) (h3 : ¬ 86400 < a2) (h4 : z7 = a2 / 65536) (h5 : z8 = a2 / 256) (h6 : z9 = (z8) % 256) (h7 : z10 = (a2) % 256) : 0 ≤ z7 := by omega
theorem o38 (a2 z7 z8 z9 z10 : Int) (h0 : 0 ≤ a2) (h1 : a2 ≤ 4294967295) (h2 : ¬ a2 < 1) (h3 : ¬ 86400 < a2) (h4 : z7 = a2 / 65536) (h5 : z8 = a2 / 256) (h6 : z9 = (z8) % 256) (h7 : z10 = (a2) % 256) : z7 < 4294967296 := by omega
theorem o39 (a2 z7 z8 z9 z10 z13 : Int) (h0 : 0 ≤ a2) (h1 : a2 ≤ 4294967295) (h2 : ¬ a2 < 1) (h3 : ¬ 86400 < a2) (h4 : z7 = a2 / 65536) (h5 : z8 = a2 / 256) (h6 : z9 = (z8) % 256) (h7 : z10 = (a2) % 256) (h8 : z13 = z7 * 256) : (z7 * 256) % 4294967296 = z13 := by omega
theorem o40 (a2 z7 z8 z9 z10 z13 : Int) (h0 : 0 ≤ a2) (h1 : a2 ≤ 4294967295) (h2 : ¬ a2 < 1) (h3 : ¬ 86400 < a2) (h4 : z7 = a2 / 65536) (h5 : z8 = a2 / 256) (h6 : z9 = (z8) % 256) (h7 : z10 = (a2) % 256) (h8 : z13 = z7 * 256) : (z9) % 4294967296 = z9 := by omega
theorem o41 (a2 z7 z8 z9 z10 z13 : Int) (h0 : 0 ≤ a2) (h1 : a2 ≤ 4294967295) (h2 : ¬ a2 < 1) (h3 : ¬ 86400 < a2) (h4 : z7 = a2 / 65536) (h5 : z8 = a2 / 256) (h6 : z9 = (z8) % 256) (h7 : z10 = (a2) % 256) (h8 : z13 = z7 * 256) : 0 ≤ z13 := by omega
theorem o42 (a2 z7 z8 z9 z10 z13 : Int) (h0 : 0 ≤ a2) (h1 : a2 ≤ 4294967295) (h2 : ¬ a2 < 1) (h3 : ¬ 86400 < a2) (h4 : z7 = a2 / 65536) (h5 : z8 = a2 / 256) (h6 : z9 = (z8) % 256) (h7 : z10 = (a2) % 256) (h8 : z13 = z7 * 256) : z13 < 4294967296 := by omega
theorem o43 (a2 z7 z8 z9 z10 z13 : Int) (h0 : 0 ≤ a2) (h1 : a2 ≤ 4294967295) (h2 : ¬ a2 < 1) (h3 : ¬ 86400 < a2) (h4 : z7 = a2 / 65536) (h5 : z8 = a2 / 256) (h6 : z9 = (z8) % 256) (h7 : z10 = (a2) % 256) (h8 : z13 = z7 * 256) : z13 % 256 = 0 := by omega
theorem o44 (a2 z7 z8 z9 z10 z13 : Int) (h0 : 0 ≤ a2) (h1 : a2 ≤ 4294967295) (h2 : ¬ a2 < 1) (h3 : ¬ 86400 < a2) (h4 : z7 = a2 / 65536) (h5 : z8 = a2 / 256) (h6 : z9 = (z8) % 256) (h7 : z10 = (a2) % 256) (h8 : z13 = z7 * 256) : 0 ≤ z9 := by omega
theorem o45 (a2 z7 z8 z9 z10 z13 : Int) (h0 : 0 ≤ a2) (h1 : a2 ≤ 4294967295) (h2 : ¬ a2 < 1) (h3 : ¬ 86400 < a2) (h4 : z7 = a2 / 65536) (h5 : z8 = a2 / 256) (h6 : z9 = (z8) % 256) (h7 : z10 = (a2) % 256) (h8 : z13 = z7 * 256) : z9 < 256 := by omega
theorem o46 (a2 z7 z8 z9 z10 z13 : Int) (h0 : 0 ≤ a2) (h1 : a2 ≤ 4294967295) (h2 : ¬ a2 < 1) (h3 : ¬ 86400 < a2) (h4 : z7 = a2 / 65536) (h5 : z8 = a2 / 256) (h6 : z9 = (z8) % 256) (h7 : z10 = (a2) % 256) (h8 : z13 = z7 * 256) : (z13 + z9) % 4294967296 = z8 := by omega
theorem o47 (a2 z7 z8 z9 z10 z13 z14 : Int) (h0 : 0 ≤ a2) (h1 : a2 ≤ 4294967295) (h2 : ¬ a2 < 1) (h3 : ¬ 86400 < a2) (h4 : z7 = a2 / 65536) (h5 : z8 = a2 / 256) (h6 : z9 = (z8) % 256) (h7 : z10 = (a2) % 256) (h8 : z13 = z7 * 256) (h9 : z14 = z8 * 256) : (z8 * 256) % 4294967296 = z14 := by omega
theorem o48 (a2 z7 z8 z9 z10 z13 z14 : Int) (h0 : 0 ≤ a2) (h1 : a2 ≤ 4294967295) (h2 : ¬ a2 < 1) (h3 : ¬ 86400 < a2) (h4 : z7 = a2 / 65536) (h5 : z8 = a2 / 256) (h6 : z9 = (z8) % 256) (h7 : z10 = (a2) % 256) (h8 : z13 = z7 * 256) (h9 : z14 = z8 * 256) : (z10) % 4294967296 = z10 := by omega
theorem o49 (a2 z7 z8 z9 z10 z13 z14 : Int) (h0 : 0 ≤ a2) (h1 : a2 ≤ 4294967295) (h2 : ¬ a2 < 1) (h3 : ¬ 86400 < a2) (h4 : z7 = a2 / 65536) (h5 : z8 = a2 / 256) (h6 : z9 = (z8) % 256) (h7 : z10 = (a2) % 256) (h8 : z13 = z7 * 256) (h9 : z14 = z8 * 256) : 0 ≤ z14 := by omega
theorem o50 (a2 z7 z8 z9 z10 z13 z14 : Int) (h0 : 0 ≤ a2) (h1 : a2 ≤ 4294967295) (h2 : ¬ a2 < 1) (h3 : ¬ 86400 < a2) (h4 : z7 = a2 / 65536) (h5 : z8 = a2 / 256) (h6 : z9 = (z8) % 256) (h7 : z10 = (a2) % 256) (h8 : z13 = z7 * 256) (h9 : z14 = z8 * 256) : z14 < 4294967296 := by omega
theorem o51 (a2 z7 z8 z9 z10 z13 z14 : Int) (h0 : 0 ≤ a2) (h1 : a2 ≤ 4294967295) (h2 : ¬ a2 < 1) (h3 : ¬ 86400 < a2) (h4 : z7 = a2 / 65536) (h5 : z8 = a2 / 256) (h6 : z9 = (z8) % 256) (h7 : z10 = (a2) % 256) (h8 : z13 = z7 * 256) (h9 : z14 = z8 * 256) : z14 % 256 = 0 := by omega
theorem o52 (a2 z7 z8 z9 z10 z13 z14 : Int) (h0 : 0 ≤ a2) (h1 : a2 ≤ 4294967295) (h2 : ¬ a2 < 1) (h3 : ¬ 86400 < a2) (h4 : z7 = a2 / 65536) (h5 : z8 = a2 / 256) (h6 : z9 = (z8) % 256) (h7 : z10 = (a2) % 256) (h8 : z13 = z7 * 256) (h9 : z14 = z8 * 256) : 0 ≤ z10 := by omega
theorem o53 (a2 z7 z8 z9 z10 z13 z14 : Int) (h0 : 0 ≤ a2) (h1 : a2 ≤ 4294967295) (h2 : ¬ a2 < 1) (h3 : ¬ 86400 < a2) (h4 : z7 = a2 / 65536) (h5 : z8 = a2 / 256) (h6 : z9 = (z8) % 256) (h7 : z10 = (a2) % 256) (h8 : z13 = z7 * 256) (h9 : z14 = z8 * 256) : z10 < 256 := by omega
theorem o54 (a2 z7 z8 z9 z10 z13 z14 : Int) (h0 : 0 ≤ a2) (h1 : a2 ≤ 4294967295) (h2 : ¬ a2 < 1) (h3 : ¬ 86400 < a2) (h4 : z7 = a2 / 65536) (h5 : z8 = a2 / 256) (h6 : z9 = (z8) % 256) (h7 : z10 = (a2) % 256) (h8 : z13 = z7 * 256) (h9 : z14 = z8 * 256) : (z14 + z10) % 4294967296 = a2 := by omega
theorem o55 (a2 z7 z8 z9 z10 z13 z14 : Int) (h0 : 0 ≤ a2) (h1 : a2 ≤ 4294967295) (h2 : ¬ a2 < 1) (h3 : ¬ 86400 < a2) (h4 : z7 = a2 / 65536) (h5 : z8 = a2 / 256) (h6 : z9 = (z8) % 256) (h7 : z10 = (a2) % 256) (h8 : z13 = z7 * 256) (h9 : z14 = z8 * 256) : ¬ a2 = 0 := by omega
theorem o56 (a0 z3 z4 z11 : Int) (h0 : (-9223372036854775808) ≤ a0) (h1 : a0 ≤ 9223372036854775807) (h2 : ¬ a0 < 1) (h3 : ¬ 65535 < a0) (h4 : z3 = a0 / 256) (h5 : z4 = (a0) % 256) (h6 : z11 = z3 * 256) : ¬ a0 = 0 := by omega
theorem o57 (a2 z7 z8 z9 z10 z13 z14 : Int) (h0 : 0 ≤ a2) (h1 : a2 ≤ 4294967295) (h2 : ¬ a2 < 1) (h3 : ¬ 86400 < a2) (h4 : z7 = a2 / 65536) (h5 : z8 = a2 / 256) (h6 : z9 = (z8) % 256) (h7 : z10 = (a2) % 256) (h8 : z13 = z7 * 256) (h9 : z14 = z8 * 256) : (a2 + 9223372036854775808) % 18446744073709551616 - 9223372036854775808 = a2 := by omega
theorem o58 (a2 z7 z8 z9 z10 z13 z14 : Int) (h0 : 0 ≤ a2) (h1 : a2 ≤ 4294967295) (h2 : ¬ a2 < 1) (h3 : ¬ 86400 < a2) (h4 : z7 = a2 / 65536) (h5 : z8 = a2 / 256) (h6 : z9 = (z8) % 256) (h7 : z10 = (a2) % 256) (h8 : z13 = z7 * 256) (h9 : z14 = z8 * 256) : (0 + a2 + 9223372036854775808) % 18446744073709551616 - 9223372036854775808 = a2 := by omega
theorem o59 (a1 z5 z6 z12 : Int) (h0 : (-9223372036854775808) ≤ a1) (h1 : a1 ≤ 9223372036854775807) (h2 : ¬ a1 < 1) (h3 : ¬ 65535 < a1) (h4 : z5 = a1 / 256) (h5 : z6 = (a1) % 256) (h6 : z12 = z5 * 256) : ¬ a1 = 0 := by omega
theorem o60 (a2 z7 z8 z9 z10 z13 z14 : Int) (h0 : 0 ≤ a2) (h1 : a2 ≤ 4294967295) (h2 : ¬ a2 < 1) (h3 : ¬ 86400 < a2) (h4 : z7 = a2 / 65536) (h5 : z8 = a2 / 256) (h6 : z9 = (z8) % 256) (h7 : z10 = (a2) % 256) (h8 : z13 = z7 * 256) (h9 : z14 = z8 * 256) : 0 < a2 := by omega
theorem o61 (a1 z5 z6 z12 : Int) (h0 : (-9223372036854775808) ≤ a1) (h1 : a1 ≤ 9223372036854775807) (h2 : ¬ a1 < 1) (h3 : ¬ 65535 < a1) (h4 : z5 = a1 / 256) (h5 : z6 = (a1) % 256) (h6 : z12 = z5 * 256) : 1 ≤ a1 := by omega
theorem o62 (a1 z5 z6 z12 : Int) (h0 : (-9223372036854775808) ≤ a1) (h1 : a1 ≤ 9223372036854775807) (h2 : ¬ a1 < 1) (h3 : ¬ 65535 < a1) (h4 : z5 = a1 / 256) (h5 : z6 = (a1) % 256) (h6 : z12 = z5 * 256) : a1 ≤ 65535 := by omega
theorem o63 (a0 z3 z4 z11 : Int) (h0 : (-9223372036854775808) ≤ a0) (h1 : a0 ≤ 9223372036854775807) (h2 : ¬ a0 < 1) (h3 : ¬ 65535 < a0) (h4 : z3 = a0 / 256) (h5 : z4 = (a0) % 256) (h6 : z11 = z3 * 256) : 1 ≤ a0 := by omega
theorem o64 (a0 z3 z4 z11 : Int) (h0 : (-9223372036854775808) ≤ a0) (h1 : a0 ≤ 9223372036854775807) (h2 : ¬ a0 < 1) (h3 : ¬ 65535 < a0) (h4 : z3 = a0 / 256) (h5 : z4 = (a0) % 256) (h6 : z11 = z3 * 256) : a0 ≤ 65535 := by omega
theorem o65 (a0 z3 z4 z11 : Int) (h0 : (-9223372036854775808) ≤ a0) (h1 : a0 ≤ 9223372036854775807) (h2 : ¬ a0 < 1) (h3 : ¬ 65535 < a0) (h4 : z3 = a0 / 256) (h5 : z4 = (a0) % 256) (h6 : z11 = z3 * 256) : a0 / 256 = z3 := by omega
theorem o66 (a0 z3 z4 z11 : Int) (h0 : (-9223372036854775808) ≤ a0) (h1 : a0 ≤ 9223372036854775807) (h2 : ¬ a0 < 1) (h3 : ¬ 65535 < a0) (h4 : z3 = a0 / 256) (h5 : z4 = (a0) % 256) (h6 : z11 = z3 * 256) : (z3) % 256 = z3 := by omega
theorem o67 (a0 z3 z4 z11 : Int) (h0 : (-9223372036854775808) ≤ a0) (h1 : a0 ≤ 9223372036854775807) (h2 : ¬ a0 < 1) (h3 : ¬ 65535 < a0) (h4 : z3 = a0 / 256) (h5 : z4 = (a0) % 256) (h6 : z11 = z3 * 256) : (a0) % 256 = z4 := by omega
theorem o68 (a1 z5 z6 z12 : Int) (h0 : (-9223372036854775808) ≤ a1) (h1 : a1 ≤ 9223372036854775807) (h2 : ¬ a1 < 1) (h3 : ¬ 65535 < a1) (h4 : z5 = a1 / 256) (h5 : z6 = (a1) % 256) (h6 : z12 = z5 * 256) : a1 / 256 = z5 := by omega
theorem o69 (a1 z5 z6 z12 : Int) (h0 : (-9223372036854775808) ≤ a1) (h1 : a1 ≤ 9223372036854775807) (h2 : ¬ a1 < 1) (h3 : ¬ 65535 < a1) (h4 : z5 = a1 / 256) (h5 : z6 = (a1) % 256) (h6 : z12 = z5 * 256) : (z5) % 256 = z5 := by omega
theorem o70 (a1 z5 z6 z12 : Int) (h0 : (-9223372036854775808) ≤ a1) (h1 : a1 ≤ 9223372036854775807) (h2 : ¬ a1 < 1) (h3 : ¬ 65535 < a1) (h4 : z5 = a1 / 256) (h5 : z6 = (a1) % 256) (h6 : z12 = z5 * 256) : (a1) % 256 = z6 := by omega
theorem o71 (a2 z7 z8 z9 z10 z13 z14 : Int) (h0 : 0 ≤ a2) (h1 : a2 ≤ 4294967295) (h2 : ¬ a2 < 1) (h3 : ¬ 86400 < a2) (h4 : z7 = a2 / 65536) (h5 : z8 = a2 / 256) (h6 : z9 = (z8) % 256) (h7 : z10 = (a2) % 256) (h8 : z13 = z7 * 256) (h9 : z14 = z8 * 256) : a2 / 16777216 = 0 := by omega
theorem o72 (a2 z7 z8 z9 z10 z13 z14 : Int) (h0 : 0 ≤ a2) (h1 : a2 ≤ 4294967295) (h2 : ¬ a2 < 1) (h3 : ¬ 86400 < a2) (h4 : z7 = a2 / 65536) (h5 : z8 = a2 / 256) (h6 : z9 = (z8) % 256) (h7 : z10 = (a2) % 256) (h8 : z13 = z7 * 256) (h9 : z14 = z8 * 256) : a2 / 65536 = z7 := by omega
theorem o73 (a2 z7 z8 z9 z10 z13 z14 : Int) (h0 : 0 ≤ a2) (h1 : a2 ≤ 4294967295) (h2 : ¬ a2 < 1) (h3 : ¬ 86400 < a2) (h4 : z7 = a2 / 65536) (h5 : z8 = a2 / 256) (h6 : z9 = (z8) % 256) (h7 : z10 = (a2) % 256) (h8 : z13 = z7 * 256) (h9 : z14 = z8 * 256) : (z7) % 256 = z7 := by omega
theorem o74 (a2 z7 z8 z9 z10 z13 z14 : Int) (h0 : 0 ≤ a2) (h1 : a2 ≤ 4294967295) (h2 : ¬ a2 < 1) (h3 : ¬ 86400 < a2) (h4 : z7 = a2 / 65536) (h5 : z8 = a2 / 256) (h6 : z9 = (z8) % 256) (h7 : z10 = (a2) % 256) (h8 : z13 = z7 * 256) (h9 : z14 = z8 * 256) : a2 / 256 = z8 := by omega
theorem o75 (a2 z7 z8 z9 z10 z13 z14 : Int) (h0 : 0 ≤ a2) (h1 : a2 ≤ 4294967295) (h2 : ¬ a2 < 1) (h3 : ¬ 86400 < a2) (h4 : z7 = a2 / 65536) (h5 : z8 = a2 / 256) (h6 : z9 = (z8) % 256) (h7 : z10 = (a2) % 256) (h8 : z13 = z7 * 256) (h9 : z14 = z8 * 256) : (z8) % 256 = z9 := by omega
theorem o76 (a2 z7 z8 z9 z10 z13 z14 : Int) (h0 : 0 ≤ a2) (h1 : a2 ≤ 4294967295) (h2 : ¬ a2 < 1) (h3 : ¬ 86400 < a2) (h4 : z7 = a2 / 65536) (h5 : z8 = a2 / 256) (h6 : z9 = (z8) % 256) (h7 : z10 = (a2) % 256) (h8 : z13 = z7 * 256) (h9 : z14 = z8 * 256) : (a2) % 256 = z10 := by omega
theorem o77 (a0 z3 z4 z11 : Int) (h0 : (-9223372036854775808) ≤ a0) (h1 : a0 ≤ 9223372036854775807) (h2 : ¬ a0 < 1) (h3 : ¬ 65535 < a0) (h4 : z3 = a0 / 256) (h5 : z4 = (a0) % 256) (h6 : z11 = z3 * 256) : (z3) % 4294967296 = z3 := by omega
theorem o78 (a0 z3 z4 z11 : Int) (h0 : (-9223372036854775808) ≤ a0) (h1 : a0 ≤ 9223372036854775807) (h2 : ¬ a0 < 1) (h3 : ¬ 65535 < a0) (h4 : z3 = a0 / 256) (h5 : z4 = (a0) % 256) (h6 : z11 = z3 * 256) : 0 ≤ z3 := by omega
theorem o79 (a0 z3 z4 z11 : Int) (h0 : (-9223372036854775808) ≤ a0) (h1 : a0 ≤ 9223372036854775807) (h2 : ¬ a0 < 1) (h3 : ¬ 65535 < a0) (h4 : z3 = a0 / 256) (h5 : z4 = (a0) % 256) (h6 : z11 = z3 * 256) : z3 < 4294967296 := by omega
theorem o80 (a1 z5 z6 z12 : Int) (h0 : (-9223372036854775808) ≤ a1) (h1 : a1 ≤ 9223372036854775807) (h2 : ¬ a1 < 1) (h3 : ¬ 65535 < a1) (h4 : z5 = a1 / 256) (h5 : z6 = (a1) % 256) (h6 : z12 = z5 * 256) : a1 = a1 := by omega
theorem o81 (a1 z5 z6 z12 : Int) (h0 : (-9223372036854775808) ≤ a1) (h1 : a1 ≤ 9223372036854775807) (h2 : ¬ a1 < 1) (h3 : ¬ 65535 < a1) (h4 : z5 = a1 / 256) (h5 : z6 = (a1) % 256) (h6 : z12 = z5 * 256) : (z5) % 4294967296 = z5 := by omega
theorem o82 (a1 z5 z6 z12 : Int) (h0 : (-9223372036854775808) ≤ a1) (h1 : a1 ≤ 9223372036854775807) (h2 : ¬ a1 < 1) (h3 : ¬ 65535 < a1) (h4 : z5 = a1 / 256) (h5 : z6 = (a1) % 256) (h6 : z12 = z5 * 256) : 0 ≤ z5 := by omega
theorem o83 (a1 z5 z6 z12 : Int) (h0 : (-9223372036854775808) ≤ a1) (h1 : a1 ≤ 9223372036854775807) (h2 : ¬ a1 < 1) (h3 : ¬ 65535 < a1) (h4 : z5 = a1 / 256) (h5 : z6 = (a1) % 256) (h6 : z12 = z5 * 256) : z5 < 4294967296 := by omega
theorem o84 (a2 z7 z8 z9 z10 z13 z14 : Int) (h0 : 0 ≤ a2) (h1 : a2 ≤ 4294967295) (h2 : ¬ a2 < 1) (h3 : ¬ 86400 < a2) (h4 : z7 = a2 / 65536) (h5 : z8 = a2 / 256) (h6 : z9 = (z8) % 256) (h7 : z10 = (a2) % 256) (h8 : z13 = z7 * 256) (h9 : z14 = z8 * 256) : (z7) % 4294967296 = z7 := by omega
theorem o85 (a2 z7 z8 z9 z10 z13 z14 : Int) (h0 : 0 ≤ a2) (h1 : a2 ≤ 4294967295) (h2 : ¬ a2 < 1) (h3 : ¬ 86400 < a2) (h4 : z7 = a2 / 65536) (h5 : z8 = a2 / 256) (h6 : z9 = (z8) % 256) (h7 : z10 = (a2) % 256) (h8 : z13 = z7 * 256) (h9 : z14 = z8 * 256) : 0 ≤ z7 := by omega
theorem o86 (a2 z7 z8 z9 z10 z13 z14 : Int) (h0 : 0 ≤ a2) (h1 : a2 ≤ 4294967295) (h2 : ¬ a2 < 1) (h3 : ¬ 86400 < a2) (h4 : z7 = a2 / 65536) (h5 : z8 = a2 / 256) (h6 : z9 = (z8) % 256) (h7 : z10 = (a2) % 256) (h8 : z13 = z7 * 256) (h9 : z14 = z8 * 256) : z7 < 4294967296 := by omega
theorem o87 (a2 z7 z8 z9 z10 z13 z14 : Int) (h0 : 0 ≤ a2) (h1 : a2 ≤ 4294967295) (h2 : ¬ a2 < 1) (h3 : ¬ 86400 < a2) (h4 : z7 = a2 / 65536) (h5 : z8 = a2 / 256) (h6 : z9 = (z8) % 256) (h7 : z10 = (a2) % 256) (h8 : z13 = z7 * 256) (h9 : z14 = z8 * 256) : (z7 * 256) % 4294967296 = z13 := by omega
theorem o88 (a2 z7 z8 z9 z10 z13 z14 : Int) (h0 : 0 ≤ a2) (h1 : a2 ≤ 4294967295) (h2 : ¬ a2 < 1) (h3 : ¬ 86400 < a2) (h4 : z7 = a2 / 65536) (h5 : z8 = a2 / 256) (h6 : z9 = (z8) % 256) (h7 : z10 = (a2) % 256) (h8 : z13 = z7 * 256) (h9 : z14 = z8 * 256) : (z9) % 4294967296 = z9 := by omega
theorem o89 (a2 z7 z8 z9 z10 z13 z14 : Int) (h0 : 0 ≤ a2) (h1 : a2 ≤ 4294967295) (h2 : ¬ a2 < 1) (h3 : ¬ 86400 < a2) (h4 : z7 = a2 / 65536) (h5 : z8 = a2 / 256) (h6 : z9 = (z8) % 256) (h7 : z10 = (a2) % 256) (h8 : z13 = z7 * 256) (h9 : z14 = z8 * 256) : 0 ≤ z13 := by omega
theorem o90 (a2 z7 z8 z9 z10 z13 z14 : Int) (h0 : 0 ≤ a2) (h1 : a2 ≤ 4294967295) (h2 : ¬ a2 < 1) (h3 : ¬ 86400 < a2) (h4 : z7 = a2 / 65536) (h5 : z8 = a2 / 256) (h6 : z9 = (z8) % 256) (h7 : z10 = (a2) % 256) (h8 : z13 = z7 * 256) (h9 : z14 = z8 * 256) : z13 < 4294967296 := by omega
theorem o91 (a2 z7 z8 z9 z10 z13 z14 : Int) (h0 : 0 ≤ a2) (h1 : a2 ≤ 4294967295) (h2 : ¬ a2 < 1) (h3 : ¬ 86400 < a2) (h4 : z7 = a2 / 65536) (h5 : z8 = a2 / 256) (h6 : z9 = (z8) % 256) (h7 : z10 = (a2) % 256) (h8 : z13 = z7 * 256) (h9 : z14 = z8 * 256) : z13 % 256 = 0 := by omega
theorem o92 (a2 z7 z8 z9 z10 z13 z14 : Int) (h0 : 0 ≤ a2) (h1 : a2 ≤ 4294967295) (h2 : ¬ a2 < 1) (h3 : ¬ 86400 < a2) (h4 : z7 = a2 / 65536) (h5 : z8 = a2 / 256) (h6 : z9 = (z8) % 256) (h7 : z10 = (a2) % 256) (h8 : z13 = z7 * 256) (h9 : z14 = z8 * 256) : 0 ≤ z9 := by omega
theorem o93 (a2 z7 z8 z9 z10 z13 z14 : Int) (h0 : 0 ≤ a2) (h1 : a2 ≤ 4294967295) (h2 : ¬ a2 < 1) (h3 : ¬ 86400 < a2) (h4 : z7 = a2 / 65536) (h5 : z8 = a2 / 256) (h6 : z9 = (z8) % 256) (h7 : z10 = (a2) % 256) (h8 : z13 = z7 * 256) (h9 : z14 = z8 * 256) : z9 < 256 := by omega
theorem o94 (a2 z7 z8 z9 z10 z13 z14 : Int) (h0 : 0 ≤ a2) (h1 : a2 ≤ 4294967295) (h2 : ¬ a2 < 1) (h3 : ¬ 86400 < a2) (h4 : z7 = a2 / 65536) (h5 : z8 = a2 / 256) (h6 : z9 = (z8) % 256) (h7 : z10 = (a2) % 256) (h8 : z13 = z7 * 256) (h9 : z14 = z8 * 256) : (z13 + z9) % 4294967296 = z8 := by omega
theorem o95 (a1 z5 z6 z12 z15 : Int) (h0 : (-9223372036854775808) ≤ a1) (h1 : a1 ≤ 9223372036854775807) (h2 : ¬ a1 < 1) (h3 : ¬ 65535 < a1) (h4 : z5 = a1 / 256) (h5 : z6 = (a1) % 256) (h6 : z12 = z5 * 256) (h7 : z15 = a1 + 1) : (a1 + 1 + 9223372036854775808) % 18446744073709551616 - 9223372036854775808 = z15 := by omega
theorem o96 (a1 z5 z6 z12 z15 : Int) (h0 : (-9223372036854775808) ≤ a1) (h1 : a1 ≤ 9223372036854775807) (h2 : ¬ a1 < 1) (h3 : ¬ 65535 < a1) (h4 : z5 = a1 / 256) (h5 : z6 = (a1) % 256) (h6 : z12 = z5 * 256) (h7 : z15 = a1 + 1) (h8 : 65535 < z15) : ¬ a1 = 1024 := by omega
theorem o97 (a1 z5 z6 z12 z15 : Int) (h0 : (-9223372036854775808) ≤ a1) (h1 : a1 ≤ 9223372036854775807) (h2 : ¬ a1 < 1) (h3 : ¬ 65535 < a1) (h4 : z5 = a1 / 256) (h5 : z6 = (a1) % 256) (h6 : z12 = z5 * 256) (h7 : z15 = a1 + 1) (h8 : 65535 < z15) : a1 = a1 := by omega
theorem o98 (a2 z7 z8 z9 z10 z13 z14 : Int) (h0 : 0 ≤ a2) (h1 : a2 ≤ 4294967295) (h2 : ¬ a2 < 1) (h3 : ¬ 86400 < a2) (h4 : z7 = a2 / 65536) (h5 : z8 = a2 / 256) (h6 : z9 = (z8) % 256) (h7 : z10 = (a2) % 256) (h8 : z13 = z7 * 256) (h9 : z14 = z8 * 256) : a2 = a2 := by omega
theorem o99 (a0 z3 z4 z11 : Int) (h0 : (-9223372036854775808) ≤ a0) (h1 : a0 ≤ 9223372036854775807) (h2 : ¬ a0 < 1) (h3 : ¬ 65535 < a0) (h4 : z3 = a0 / 256) (h5 : z4 = (a0) % 256) (h6 : z11 = z3 * 256) : a0 = a0 := by omega
theorem o100 (a1 z5 z6 z12 z15 : Int) (h0 : (-9223372036854775808) ≤ a1) (h1 : a1 ≤ 9223372036854775807) (h2 : ¬ a1 < 1) (h3 : ¬ 65535 < a1) (h4 : z5 = a1 / 256) (h5 : z6 = (a1) % 256) (h6 : z12 = z5 * 256) (h7 : z15 = a1 + 1) (h8 : ¬ 65535 < z15) : 1 ≤ z15 := by omega
theorem o101 (a1 z5 z6 z12 z15 : Int) (h0 : (-9223372036854775808) ≤ a1) (h1 : a1 ≤ 9223372036854775807) (h2 : ¬ a1 < 1) (h3 : ¬ 65535 < a1) (h4 : z5 = a1 / 256) (h5 : z6 = (a1) % 256) (h6 : z12 = z5 * 256) (h7 : z15 = a1 + 1) (h8 : ¬ 65535 < z15) : z15 ≤ 65535 := by omega
theorem o102 (a1 z5 z6 z12 z15 : Int) (h0 : (-9223372036854775808) ≤ a1) (h1 : a1 ≤ 9223372036854775807) (h2 : ¬ a1 < 1) (h3 : ¬ 65535 < a1) (h4 : z5 = a1 / 256) (h5 : z6 = (a1) % 256) (h6 : z12 = z5 * 256) (h7 : z15 = a1 + 1) (h8 : ¬ 65535 < z15) : ¬ a1 = z15 := by omega
theorem o103 (a1 z5 z6 z12 z15 z16 : Int) (h0 : (-9223372036854775808) ≤ a1) (h1 : a1 ≤ 9223372036854775807) (h2 : ¬ a1 < 1) (h3 : ¬ 65535 < a1) (h4 : z5 = a1 / 256) (h5 : z6 = (a1) % 256) (h6 : z12 = z5 * 256) (h7 : z15 = a1 + 1) (h8 : ¬ 65535 < z15) (h9 : z16 = z15 / 256) : z15 / 256 = z16 := by omega
theorem o104 (a1 z5 z6 z12 z15 z16 : Int) (h0 : (-9223372036854775808) ≤ a1) (h1 : a1 ≤ 9223372036854775807) (h2 : ¬ a1 < 1) (h3 : ¬ 65535 < a1) (h4 : z5 = a1 / 256) (h5 : z6 = (a1) % 256) (h6 : z12 = z5 * 256) (h7 : z15 = a1 + 1) (h8 : ¬ 65535 < z15) (h9 : z16 = z15 / 256) : (z16) % 256 = z16 := by omega
theorem o105 (a1 z5 z6 z12 z15 z16 z17 : Int) (h0 : (-9223372036854775808) ≤ a1) (h1 : a1 ≤ 9223372036854775807) (h2 : ¬ a1 < 1) (h3 : ¬ 65535 < a1) (h4 : z5 = a1 / 256) (h5 : z6 = (a1) % 256) (h6 : z12 = z5 * 256) (h7 : z15 = a1 + 1) (h8 : ¬ 65535 < z15) (h9 : z16 = z15 / 256) (h10 : z17 = (z15) % 256) : (z15) % 256 = z17 := by omega
theorem o106 (a1 z5 z6 z12 z15 z16 z17 : Int) (h0 : (-9223372036854775808) ≤ a1) (h1 : a1 ≤ 9223372036854775807) (h2 : ¬ a1 < 1) (h3 : ¬ 65535 < a1) (h4 : z5 = a1 / 256) (h5 : z6 = (a1) % 256) (h6 : z12 = z5 * 256) (h7 : z15 = a1 + 1) (h8 : ¬ 65535 < z15) (h9 : z16 = z15 / 256) (h10 : z17 = (z15) % 256) : a1 = a1 := by omega

theorem t8 (a0 a1 a2 z3 z4 z5 z6 z7 z8 z9 z10 z11 z12 z13 z14 z15 : Int) (l0 : (-9223372036854775808) ≤ a0) (u0 : a0 ≤ 9223372036854775807) (l1 : (-9223372036854775808) ≤ a1) (u1 : a1 ≤ 9223372036854775807) (l2 : 0 ≤ a2) (u2 : a2 ≤ 4294967295) (f0 : ¬ a0 < 1) (f1 : ¬ 65535 < a0) (f2 : ¬ a1 < 1) (f3 : ¬ 65535 < a1) (f4 : ¬ a2 < 1) (f5 : ¬ 86400 < a2) (e3 : z3 = a0 / 256) (e4 : z4 = (a0) % 256) (e5 : z5 = a1 / 256) (e6 : z6 = (a1) % 256) (e7 : z7 = a2 / 65536) (e8 : z8 = a2 / 256) (e9 : z9 = (z8) % 256) (e10 : z10 = (a2) % 256) (e11 : z11 = z3 * 256) (e12 : z12 = z5 * 256) (e13 : z13 = z7 * 256) (e14 : z14 = z8 * 256) (e15 : z15 = a1 + 1) (f6 : 65535 < z15) : T0.holds [a0, a1, a2, z3, z4, z5, z6, z7, z8, z9, z10, z11, z12, z13, z14, z15] := by
  refine Pt.h_yes (show 0 < a2 from (o60 a2 z7 z8 z9 z10 z13 z14 l2 u2 f4 f5 e7 e8 e9 e10 e13 e14)) ?_
  refine Pt.h_yes (show 1 ≤ a0 from (o63 a0 z3 z4 z11 l0 u0 f0 f1 e3 e4 e11)) ?_
  refine Pt.h_yes (show a0 ≤ 65535 from (o64 a0 z3 z4 z11 l0 u0 f0 f1 e3 e4 e11)) ?_
  refine Pt.h_no (show ¬ a1 = 1024 from (o96 a1 z5 z6 z12 z15 l1 u1 f2 f3 e5 e6 e12 e15 f6)) ?_
  refine Pt.h_yes (show 0 < a2 from (o60 a2 z7 z8 z9 z10 z13 z14 l2 u2 f4 f5 e7 e8 e9 e10 e13 e14)) ?_
  refine Pt.h_no (show ¬ a1 = 1024 from (o96 a1 z5 z6 z12 z15 l1 u1 f2 f3 e5 e6 e12 e15 f6)) ?_
  refine Pt.h_is (v_shr 8 256 rfl rfl (by decide) (by decide) ((o65 a0 z3 z4 z11 l0 u0 f0 f1 e3 e4 e11))) ?_
  refine Pt.h_is (v_wr rfl  ((wrap_u8 _).trans (o66 a0 z3 z4 z11 l0 u0 f0 f1 e3 e4 e11))) ?_
  refine Pt.h_is (v_wr rfl  ((wrap_u8 _).trans (o67 a0 z3 z4 z11 l0 u0 f0 f1 e3 e4 e11))) ?_
  refine Pt.h_is (v_shr 24 16777216 rfl rfl (by decide) (by decide) ((o71 a2 z7 z8 z9 z10 z13 z14 l2 u2 f4 f5 e7 e8 e9 e10 e13 e14))) ?_
  refine Pt.h_is (v_shr 16 65536 rfl rfl (by decide) (by decide) ((o72 a2 z7 z8 z9 z10 z13 z14 l2 u2 f4 f5 e7 e8 e9 e10 e13 e14))) ?_
  refine Pt.h_is (v_wr rfl  ((wrap_u8 _).trans (o73 a2 z7 z8 z9 z10 z13 z14 l2 u2 f4 f5 e7 e8 e9 e10 e13 e14))) ?_
  refine Pt.h_is (v_shr 8 256 rfl rfl (by decide) (by decide) ((o74 a2 z7 z8 z9 z10 z13 z14 l2 u2 f4 f5 e7 e8 e9 e10 e13 e14))) ?_
  refine Pt.h_is (v_wr rfl  ((wrap_u8 _).trans (o75 a2 z7 z8 z9 z10 z13 z14 l2 u2 f4 f5 e7 e8 e9 e10 e13 e14))) ?_
  refine Pt.h_is (v_wr rfl  ((wrap_u8 _).trans (o76 a2 z7 z8 z9 z10 z13 z14 l2 u2 f4 f5 e7 e8 e9 e10 e13 e14))) ?_
  refine Pt.h_yes (show a1 = a1 from (o97 a1 z5 z6 z12 z15 l1 u1 f2 f3 e5 e6 e12 e15 f6)) ?_
  refine Pt.h_yes (show 0 < a2 from (o60 a2 z7 z8 z9 z10 z13 z14 l2 u2 f4 f5 e7 e8 e9 e10 e13 e14)) ?_
  refine Pt.h_is (v_wr rfl  ((wrap_i64 _).trans (o57 a2 z7 z8 z9 z10 z13 z14 l2 u2 f4 f5 e7 e8 e9 e10 e13 e14))) ?_
  refine Pt.h_yes (show a2 = a2 from (o98 a2 z7 z8 z9 z10 z13 z14 l2 u2 f4 f5 e7 e8 e9 e10 e13 e14)) ?_
  refine Pt.h_yes (show a1 = a1 from (o97 a1 z5 z6 z12 z15 l1 u1 f2 f3 e5 e6 e12 e15 f6)) ?_
  refine Pt.h_yes (show a0 = a0 from (o99 a0 z3 z4 z11 l0 u0 f0 f1 e3 e4 e11)) ?_
  refine Pt.h_yes (show a2 = a2 from (o98 a2 z7 z8 z9 z10 z13 z14 l2 u2 f4 f5 e7 e8 e9 e10 e13 e14)) ?_
  exact Pt.h_done

theorem t9 (a0 a1 a2 z3 z4 z5 z6 z7 z8 z9 z10 z11 z12 z13 z14 z15 : Int) (l0 : (-9223372036854775808) ≤ a0) (u0 : a0 ≤ 9223372036854775807) (l1 : (-9223372036854775808) ≤ a1) (u1 : a1 ≤ 9223372036854775807) (l2 : 0 ≤ a2) (u2 : a2 ≤ 4294967295) (f0 : ¬ a0 < 1) (f1 : ¬ 65535 < a0) (f2 : ¬ a1 < 1) (f3 : ¬ 65535 < a1) (f4 : ¬ a2 < 1) (f5 : ¬ 86400 < a2) (e3 : z3 = a0 / 256) (e4 : z4 = (a0) % 256) (e5 : z5 = a1 / 256) (e6 : z6 = (a1) % 256) (e7 : z7 = a2 / 65536) (e8 : z8 = a2 / 256) (e9 : z9 = (z8) % 256) (e10 : z10 = (a2) % 256) (e11 : z11 = z3 * 256) (e12 : z12 = z5 * 256) (e13 : z13 = z7 * 256) (e14 : z14 = z8 * 256) (e15 : z15 = a1 + 1) (f6 : ¬ 65535 < z15) : T1.holds [a0, a1, a2, z3, z4, z5, z6, z7, z8, z9, z10, z11, z12, z13, z14, z15] := by
  refine Pt.h_yes (show 0 < a2 from (o60 a2 z7 z8 z9 z10 z13 z14 l2 u2 f4 f5 e7 e8 e9 e10 e13 e14)) ?_
  refine Pt.h_yes (show 1 ≤ z15 from (o100 a1 z5 z6 z12 z15 l1 u1 f2 f3 e5 e6 e12 e15 f6)) ?_
  refine Pt.h_yes (show z15 ≤ 65535 from (o101 a1 z5 z6 z12 z15 l1 u1 f2 f3 e5 e6 e12 e15 f6)) ?_
  refine Pt.h_yes (show 1 ≤ a0 from (o63 a0 z3 z4 z11 l0 u0 f0 f1 e3 e4 e11)) ?_
  refine Pt.h_yes (show a0 ≤ 65535 from (o64 a0 z3 z4 z11 l0 u0 f0 f1 e3 e4 e11)) ?_
  refine Pt.h_no (show ¬ a1 = z15 from (o102 a1 z5 z6 z12 z15 l1 u1 f2 f3 e5 e6 e12 e15 f6)) ?_
  refine Pt.h_yes (show 0 < a2 from (o60 a2 z7 z8 z9 z10 z13 z14 l2 u2 f4 f5 e7 e8 e9 e10 e13 e14)) ?_
  refine Pt.h_no (show ¬ a1 = z15 from (o102 a1 z5 z6 z12 z15 l1 u1 f2 f3 e5 e6 e12 e15 f6)) ?_
  refine Pt.h_is (v_shr 8 256 rfl rfl (by decide) (by decide) ((o65 a0 z3 z4 z11 l0 u0 f0 f1 e3 e4 e11))) ?_
  refine Pt.h_is (v_wr rfl  ((wrap_u8 _).trans (o66 a0 z3 z4 z11 l0 u0 f0 f1 e3 e4 e11))) ?_
  refine Pt.h_is (v_wr rfl  ((wrap_u8 _).trans (o67 a0 z3 z4 z11 l0 u0 f0 f1 e3 e4 e11))) ?_
  obtain ⟨z16, e16⟩ : ∃ z : Int, z = z15 / 256 := ⟨_, rfl⟩
  refine Pt.h_new (v_shr 8 256 rfl rfl (by decide) (by decide) ((o103 a1 z5 z6 z12 z15 z16 l1 u1 f2 f3 e5 e6 e12 e15 f6 e16))) (show _ = [a0, a1, a2, z3, z4, z5, z6, z7, z8, z9, z10, z11, z12, z13, z14, z15, z16] from rfl) ?_
  refine Pt.h_is (v_wr rfl  ((wrap_u8 _).trans (o104 a1 z5 z6 z12 z15 z16 l1 u1 f2 f3 e5 e6 e12 e15 f6 e16))) ?_
  obtain ⟨z17, e17⟩ : ∃ z : Int, z = (z15) % 256 := ⟨_, rfl⟩
  refine Pt.h_new (v_wr rfl  ((wrap_u8 _).trans (o105 a1 z5 z6 z12 z15 z16 z17 l1 u1 f2 f3 e5 e6 e12 e15 f6 e16 e17))) (show _ = [a0, a1, a2, z3, z4, z5, z6, z7, z8, z9, z10, z11, z12, z13, z14, z15, z16, z17] from rfl) ?_
  refine Pt.h_is (v_shr 24 16777216 rfl rfl (by decide) (by decide) ((o71 a2 z7 z8 z9 z10 z13 z14 l2 u2 f4 f5 e7 e8 e9 e10 e13 e14))) ?_
  refine Pt.h_is (v_shr 16 65536 rfl rfl (by decide) (by decide) ((o72 a2 z7 z8 z9 z10 z13 z14 l2 u2 f4 f5 e7 e8 e9 e10 e13 e14))) ?_
  refine Pt.h_is (v_wr rfl  ((wrap_u8 _).trans (o73 a2 z7 z8 z9 z10 z13 z14 l2 u2 f4 f5 e7 e8 e9 e10 e13 e14))) ?_
  refine Pt.h_is (v_shr 8 256 rfl rfl (by decide) (by decide) ((o74 a2 z7 z8 z9 z10 z13 z14 l2 u2 f4 f5 e7 e8 e9 e10 e13 e14))) ?_
  refine Pt.h_is (v_wr rfl  ((wrap_u8 _).trans (o75 a2 z7 z8 z9 z10 z13 z14 l2 u2 f4 f5 e7 e8 e9 e10 e13 e14))) ?_
  refine Pt.h_is (v_wr rfl  ((wrap_u8 _).trans (o76 a2 z7 z8 z9 z10 z13 z14 l2 u2 f4 f5 e7 e8 e9 e10 e13 e14))) ?_
  refine Pt.h_yes (show a1 = a1 from (o106 a1 z5 z6 z12 z15 z16 z17 l1 u1 f2 f3 e5 e6 e12 e15 f6 e16 e17)) ?_
  refine Pt.h_yes (show 0 < a2 from (o60 a2 z7 z8 z9 z10 z13 z14 l2 u2 f4 f5 e7 e8 e9 e10 e13 e14)) ?_
  refine Pt.h_is (v_wr rfl  ((wrap_i64 _).trans (o57 a2 z7 z8 z9 z10 z13 z14 l2 u2 f4 f5 e7 e8 e9 e10 e13 e14))) ?_
  refine Pt.h_yes (show a2 = a2 from (o98 a2 z7 z8 z9 z10 z13 z14 l2 u2 f4 f5 e7 e8 e9 e10 e13 e14)) ?_
  refine Pt.h_yes (show a1 = a1 from (o106 a1 z5 z6 z12 z15 z16 z17 l1 u1 f2 f3 e5 e6 e12 e15 f6 e16 e17)) ?_
  refine Pt.h_yes (show a0 = a0 from (o99 a0 z3 z4 z11 l0 u0 f0 f1 e3 e4 e11)) ?_
  refine Pt.h_yes (show a2 = a2 from (o98 a2 z7 z8 z9 z10 z13 z14 l2 u2 f4 f5 e7 e8 e9 e10 e13 e14)) ?_
  exact Pt.h_done

theorem t7 (a0 a1 a2 z3 z4 z5 z6 z7 z8 z9 z10 z11 z12 z13 z14 : Int) (l0 : (-9223372036854775808) ≤ a0) (u0 : a0 ≤ 9223372036854775807) (l1 : (-9223372036854775808) ≤ a1) (u1 : a1 ≤ 9223372036854775807) (l2 : 0 ≤ a2) (u2 : a2 ≤ 4294967295) (f0 : ¬ a0 < 1) (f1 : ¬ 65535 < a0) (f2 : ¬ a1 < 1) (f3 : ¬ 65535 < a1) (f4 : ¬ a2 < 1) (f5 : ¬ 86400 < a2) (e3 : z3 = a0 / 256) (e4 : z4 = (a0) % 256) (e5 : z5 = a1 / 256) (e6 : z6 = (a1) % 256) (e7 : z7 = a2 / 65536) (e8 : z8 = a2 / 256) (e9 : z9 = (z8) % 256) (e10 : z10 = (a2) % 256) (e11 : z11 = z3 * 256) (e12 : z12 = z5 * 256) (e13 : z13 = z7 * 256) (e14 : z14 = z8 * 256) : T2.holds [a0, a1, a2, z3, z4, z5, z6, z7, z8, z9, z10, z11, z12, z13, z14] := by
  refine Pt.h_is (v_wr rfl  ((wrap_u8 _).trans (o73 a2 z7 z8 z9 z10 z13 z14 l2 u2 f4 f5 e7 e8 e9 e10 e13 e14))) ?_
  refine Pt.h_is (v_shr 8 256 rfl rfl (by decide) (by decide) ((o74 a2 z7 z8 z9 z10 z13 z14 l2 u2 f4 f5 e7 e8 e9 e10 e13 e14))) ?_
  refine Pt.h_is (v_wr rfl  ((wrap_u8 _).trans (o75 a2 z7 z8 z9 z10 z13 z14 l2 u2 f4 f5 e7 e8 e9 e10 e13 e14))) ?_
  refine Pt.h_is (v_wr rfl  ((wrap_u8 _).trans (o76 a2 z7 z8 z9 z10 z13 z14 l2 u2 f4 f5 e7 e8 e9 e10 e13 e14))) ?_
  refine Pt.h_is (v_wr rfl  ((wrap_u32 _).trans (o77 a0 z3 z4 z11 l0 u0 f0 f1 e3 e4 e11))) ?_
  refine Pt.h_is (v_or0 rfl rfl (o78 a0 z3 z4 z11 l0 u0 f0 f1 e3 e4 e11) (show z3 < (2 : Int) ^ IntKind.bits .u32 from (o79 a0 z3 z4 z11 l0 u0 f0 f1 e3 e4 e11)) ((wrap_u32 _).trans (o77 a0 z3 z4 z11 l0 u0 f0 f1 e3 e4 e11))) ?_
  refine Pt.h_is (v_shl 8 256 rfl rfl (by decide) (by decide) ((wrap_u32 _).trans (o15 a0 z3 z4 z11 l0 u0 f0 f1 e3 e4 e11))) ?_
  refine Pt.h_is (v_wr rfl  ((wrap_u32 _).trans (o16 a0 z3 z4 z11 l0 u0 f0 f1 e3 e4 e11))) ?_
  refine Pt.h_is (v_or 8 256 rfl rfl (by decide) (by decide) (o17 a0 z3 z4 z11 l0 u0 f0 f1 e3 e4 e11) (show z11 < (2 : Int) ^ IntKind.bits .u32 from (o18 a0 z3 z4 z11 l0 u0 f0 f1 e3 e4 e11)) (o19 a0 z3 z4 z11 l0 u0 f0 f1 e3 e4 e11) (o20 a0 z3 z4 z11 l0 u0 f0 f1 e3 e4 e11) (o21 a0 z3 z4 z11 l0 u0 f0 f1 e3 e4 e11) ((wrap_u32 _).trans (o22 a0 z3 z4 z11 l0 u0 f0 f1 e3 e4 e11))) ?_
  refine Pt.h_is (v_wr rfl  ((wrap_i64 _).trans (o23 a0 z3 z4 z11 l0 u0 f0 f1 e3 e4 e11))) ?_
  refine Pt.h_is (v_wr rfl  ((wrap_u32 _).trans (o81 a1 z5 z6 z12 l1 u1 f2 f3 e5 e6 e12))) ?_
  refine Pt.h_is (v_or0 rfl rfl (o82 a1 z5 z6 z12 l1 u1 f2 f3 e5 e6 e12) (show z5 < (2 : Int) ^ IntKind.bits .u32 from (o83 a1 z5 z6 z12 l1 u1 f2 f3 e5 e6 e12)) ((wrap_u32 _).trans (o81 a1 z5 z6 z12 l1 u1 f2 f3 e5 e6 e12))) ?_
  refine Pt.h_is (v_shl 8 256 rfl rfl (by decide) (by decide) ((wrap_u32 _).trans (o27 a1 z5 z6 z12 l1 u1 f2 f3 e5 e6 e12))) ?_
  refine Pt.h_is (v_wr rfl  ((wrap_u32 _).trans (o28 a1 z5 z6 z12 l1 u1 f2 f3 e5 e6 e12))) ?_
  refine Pt.h_is (v_or 8 256 rfl rfl (by decide) (by decide) (o29 a1 z5 z6 z12 l1 u1 f2 f3 e5 e6 e12) (show z12 < (2 : Int) ^ IntKind.bits .u32 from (o30 a1 z5 z6 z12 l1 u1 f2 f3 e5 e6 e12)) (o31 a1 z5 z6 z12 l1 u1 f2 f3 e5 e6 e12) (o32 a1 z5 z6 z12 l1 u1 f2 f3 e5 e6 e12) (o33 a1 z5 z6 z12 l1 u1 f2 f3 e5 e6 e12) ((wrap_u32 _).trans (o34 a1 z5 z6 z12 l1 u1 f2 f3 e5 e6 e12))) ?_
  refine Pt.h_is (v_wr rfl  ((wrap_i64 _).trans (o35 a1 z5 z6 z12 l1 u1 f2 f3 e5 e6 e12))) ?_
  refine Pt.h_is (v_wr rfl  ((wrap_u32 _).trans (o84 a2 z7 z8 z9 z10 z13 z14 l2 u2 f4 f5 e7 e8 e9 e10 e13 e14))) ?_
  refine Pt.h_is (v_or0 rfl rfl (o85 a2 z7 z8 z9 z10 z13 z14 l2 u2 f4 f5 e7 e8 e9 e10 e13 e14) (show z7 < (2 : Int) ^ IntKind.bits .u32 from (o86 a2 z7 z8 z9 z10 z13 z14 l2 u2 f4 f5 e7 e8 e9 e10 e13 e14)) ((wrap_u32 _).trans (o84 a2 z7 z8 z9 z10 z13 z14 l2 u2 f4 f5 e7 e8 e9 e10 e13 e14))) ?_
  refine Pt.h_is (v_shl 8 256 rfl rfl (by decide) (by decide) ((wrap_u32 _).trans (o87 a2 z7 z8 z9 z10 z13 z14 l2 u2 f4 f5 e7 e8 e9 e10 e13 e14))) ?_
  refine Pt.h_is (v_wr rfl  ((wrap_u32 _).trans (o88 a2 z7 z8 z9 z10 z13 z14 l2 u2 f4 f5 e7 e8 e9 e10 e13 e14))) ?_
  refine Pt.h_is (v_or 8 256 rfl rfl (by decide) (by decide) (o89 a2 z7 z8 z9 z10 z13 z14 l2 u2 f4 f5 e7 e8 e9 e10 e13 e14) (show z13 < (2 : Int) ^ IntKind.bits .u32 from (o90 a2 z7 z8 z9 z10 z13 z14 l2 u2 f4 f5 e7 e8 e9 e10 e13 e14)) (o91 a2 z7 z8 z9 z10 z13 z14 l2 u2 f4 f5 e7 e8 e9 e10 e13 e14) (o92 a2 z7 z8 z9 z10 z13 z14 l2 u2 f4 f5 e7 e8 e9 e10 e13 e14) (o93 a2 z7 z8 z9 z10 z13 z14 l2 u2 f4 f5 e7 e8 e9 e10 e13 e14) ((wrap_u32 _).trans (o94 a2 z7 z8 z9 z10 z13 z14 l2 u2 f4 f5 e7 e8 e9 e10 e13 e14))) ?_
  refine Pt.h_is (v_shl 8 256 rfl rfl (by decide) (by decide) ((wrap_u32 _).trans (o47 a2 z7 z8 z9 z10 z13 z14 l2 u2 f4 f5 e7 e8 e9 e10 e13 e14))) ?_
  refine Pt.h_is (v_wr rfl  ((wrap_u32 _).trans (o48 a2 z7 z8 z9 z10 z13 z14 l2 u2 f4 f5 e7 e8 e9 e10 e13 e14))) ?_
  refine Pt.h_is (v_or 8 256 rfl rfl (by decide) (by decide) (o49 a2 z7 z8 z9 z10 z13 z14 l2 u2 f4 f5 e7 e8 e9 e10 e13 e14) (show z14 < (2 : Int) ^ IntKind.bits .u32 from (o50 a2 z7 z8 z9 z10 z13 z14 l2 u2 f4 f5 e7 e8 e9 e10 e13 e14)) (o51 a2 z7 z8 z9 z10 z13 z14 l2 u2 f4 f5 e7 e8 e9 e10 e13 e14) (o52 a2 z7 z8 z9 z10 z13 z14 l2 u2 f4 f5 e7 e8 e9 e10 e13 e14) (o53 a2 z7 z8 z9 z10 z13 z14 l2 u2 f4 f5 e7 e8 e9 e10 e13 e14) ((wrap_u32 _).trans (o54 a2 z7 z8 z9 z10 z13 z14 l2 u2 f4 f5 e7 e8 e9 e10 e13 e14))) ?_
  refine Pt.h_no (show ¬ a2 = 0 from (o55 a2 z7 z8 z9 z10 z13 z14 l2 u2 f4 f5 e7 e8 e9 e10 e13 e14)) ?_
  refine Pt.h_no (show ¬ a0 = 0 from (o56 a0 z3 z4 z11 l0 u0 f0 f1 e3 e4 e11)) ?_
  refine Pt.h_no (show ¬ 86400 < a2 from f5) ?_
  refine Pt.h_is (v_wr rfl  ((wrap_i64 _).trans (o57 a2 z7 z8 z9 z10 z13 z14 l2 u2 f4 f5 e7 e8 e9 e10 e13 e14))) ?_
  refine Pt.h_is (v_add rfl rfl  ((wrap_i64 _).trans (o58 a2 z7 z8 z9 z10 z13 z14 l2 u2 f4 f5 e7 e8 e9 e10 e13 e14))) ?_
  refine Pt.h_yes (show 0 < a2 from (o60 a2 z7 z8 z9 z10 z13 z14 l2 u2 f4 f5 e7 e8 e9 e10 e13 e14)) ?_
  refine Pt.h_no (show ¬ a1 = 0 from (o59 a1 z5 z6 z12 l1 u1 f2 f3 e5 e6 e12)) ?_
  refine Pt.h_yes (show 0 < a2 from (o60 a2 z7 z8 z9 z10 z13 z14 l2 u2 f4 f5 e7 e8 e9 e10 e13 e14)) ?_
  refine Pt.h_yes (show 1 ≤ a1 from (o61 a1 z5 z6 z12 l1 u1 f2 f3 e5 e6 e12)) ?_
  refine Pt.h_yes (show a1 ≤ 65535 from (o62 a1 z5 z6 z12 l1 u1 f2 f3 e5 e6 e12)) ?_
  refine Pt.h_yes (show 1 ≤ a0 from (o63 a0 z3 z4 z11 l0 u0 f0 f1 e3 e4 e11)) ?_
  refine Pt.h_yes (show a0 ≤ 65535 from (o64 a0 z3 z4 z11 l0 u0 f0 f1 e3 e4 e11)) ?_
  refine Pt.h_yes (show a1 = a1 from (o80 a1 z5 z6 z12 l1 u1 f2 f3 e5 e6 e12)) ?_
  refine Pt.h_yes (show 0 < a2 from (o60 a2 z7 z8 z9 z10 z13 z14 l2 u2 f4 f5 e7 e8 e9 e10 e13 e14)) ?_
  obtain ⟨z15, e15⟩ : ∃ z : Int, z = a1 + 1 := ⟨_, rfl⟩
  refine Pt.h_new (v_add rfl rfl  ((wrap_i64 _).trans (o95 a1 z5 z6 z12 z15 l1 u1 f2 f3 e5 e6 e12 e15))) (show _ = [a0, a1, a2, z3, z4, z5, z6, z7, z8, z9, z10, z11, z12, z13, z14, z15] from rfl) ?_
  refine Pt.h_fork (fun (f6 : 65535 < z15) => ?_) (fun (f6 : ¬ 65535 < z15) => ?_)
  · skip
    exact t8 a0 a1 a2 z3 z4 z5 z6 z7 z8 z9 z10 z11 z12 z13 z14 z15 l0 u0 l1 u1 l2 u2 f0 f1 f2 f3 f4 f5 e3 e4 e5 e6 e7 e8 e9 e10 e11 e12 e13 e14 e15 f6
  · skip
    exact t9 a0 a1 a2 z3 z4 z5 z6 z7 z8 z9 z10 z11 z12 z13 z14 z15 l0 u0 l1 u1 l2 u2 f0 f1 f2 f3 f4 f5 e3 e4 e5 e6 e7 e8 e9 e10 e11 e12 e13 e14 e15 f6

theorem t6 (a0 a1 a2 : Int) (l0 : (-9223372036854775808) ≤ a0) (u0 : a0 ≤ 9223372036854775807) (l1 : (-9223372036854775808) ≤ a1) (u1 : a1 ≤ 9223372036854775807) (l2 : 0 ≤ a2) (u2 : a2 ≤ 4294967295) (f0 : ¬ a0 < 1) (f1 : ¬ 65535 < a0) (f2 : ¬ a1 < 1) (f3 : ¬ 65535 < a1) (f4 : ¬ a2 < 1) (f5 : ¬ 86400 < a2) : T3.holds [a0, a1, a2] := by
  obtain ⟨z3, e3⟩ : ∃ z : Int, z = a0 / 256 := ⟨_, rfl⟩
  refine Pt.h_new (v_shr 8 256 rfl rfl (by decide) (by decide) ((o0 a0 z3 l0 u0 f0 f1 e3))) (show _ = [a0, a1, a2, z3] from rfl) ?_
  refine Pt.h_is (v_wr rfl  ((wrap_u8 _).trans (o1 a0 z3 l0 u0 f0 f1 e3))) ?_
  obtain ⟨z4, e4⟩ : ∃ z : Int, z = (a0) % 256 := ⟨_, rfl⟩
  refine Pt.h_new (v_wr rfl  ((wrap_u8 _).trans (o2 a0 z3 z4 l0 u0 f0 f1 e3 e4))) (show _ = [a0, a1, a2, z3, z4] from rfl) ?_
  obtain ⟨z5, e5⟩ : ∃ z : Int, z = a1 / 256 := ⟨_, rfl⟩
  refine Pt.h_new (v_shr 8 256 rfl rfl (by decide) (by decide) ((o3 a1 z5 l1 u1 f2 f3 e5))) (show _ = [a0, a1, a2, z3, z4, z5] from rfl) ?_
  refine Pt.h_is (v_wr rfl  ((wrap_u8 _).trans (o4 a1 z5 l1 u1 f2 f3 e5))) ?_
  obtain ⟨z6, e6⟩ : ∃ z : Int, z = (a1) % 256 := ⟨_, rfl⟩
  refine Pt.h_new (v_wr rfl  ((wrap_u8 _).trans (o5 a1 z5 z6 l1 u1 f2 f3 e5 e6))) (show _ = [a0, a1, a2, z3, z4, z5, z6] from rfl) ?_
  refine Pt.h_is (v_shr 24 16777216 rfl rfl (by decide) (by decide) ((o6 a2 l2 u2 f4 f5))) ?_
  obtain ⟨z7, e7⟩ : ∃ z : Int, z = a2 / 65536 := ⟨_, rfl⟩
  refine Pt.h_new (v_shr 16 65536 rfl rfl (by decide) (by decide) ((o7 a2 z7 l2 u2 f4 f5 e7))) (show _ = [a0, a1, a2, z3, z4, z5, z6, z7] from rfl) ?_
  refine Pt.h_is (v_wr rfl  ((wrap_u8 _).trans (o8 a2 z7 l2 u2 f4 f5 e7))) ?_
  obtain ⟨z8, e8⟩ : ∃ z : Int, z = a2 / 256 := ⟨_, rfl⟩
  refine Pt.h_new (v_shr 8 256 rfl rfl (by decide) (by decide) ((o9 a2 z7 z8 l2 u2 f4 f5 e7 e8))) (show _ = [a0, a1, a2, z3, z4, z5, z6, z7, z8] from rfl) ?_
  obtain ⟨z9, e9⟩ : ∃ z : Int, z = (z8) % 256 := ⟨_, rfl⟩
  refine Pt.h_new (v_wr rfl  ((wrap_u8 _).trans (o10 a2 z7 z8 z9 l2 u2 f4 f5 e7 e8 e9))) (show _ = [a0, a1, a2, z3, z4, z5, z6, z7, z8, z9] from rfl) ?_
  obtain ⟨z10, e10⟩ : ∃ z : Int, z = (a2) % 256 := ⟨_, rfl⟩
  refine Pt.h_new (v_wr rfl  ((wrap_u8 _).trans (o11 a2 z7 z8 z9 z10 l2 u2 f4 f5 e7 e8 e9 e10))) (show _ = [a0, a1, a2, z3, z4, z5, z6, z7, z8, z9, z10] from rfl) ?_
  refine Pt.h_is (v_wr rfl  ((wrap_u32 _).trans (o12 a0 z3 z4 l0 u0 f0 f1 e3 e4))) ?_
  refine Pt.h_is (v_or0 rfl rfl (o13 a0 z3 z4 l0 u0 f0 f1 e3 e4) (show z3 < (2 : Int) ^ IntKind.bits .u32 from (o14 a0 z3 z4 l0 u0 f0 f1 e3 e4)) ((wrap_u32 _).trans (o12 a0 z3 z4 l0 u0 f0 f1 e3 e4))) ?_
  obtain ⟨z11, e11⟩ : ∃ z : Int, z = z3 * 256 := ⟨_, rfl⟩
  refine Pt.h_new (v_shl 8 256 rfl rfl (by decide) (by decide) ((wrap_u32 _).trans (o15 a0 z3 z4 z11 l0 u0 f0 f1 e3 e4 e11))) (show _ = [a0, a1, a2, z3, z4, z5, z6, z7, z8, z9, z10, z11] from rfl) ?_
  refine Pt.h_is (v_wr rfl  ((wrap_u32 _).trans (o16 a0 z3 z4 z11 l0 u0 f0 f1 e3 e4 e11))) ?_
  refine Pt.h_is (v_or 8 256 rfl rfl (by decide) (by decide) (o17 a0 z3 z4 z11 l0 u0 f0 f1 e3 e4 e11) (show z11 < (2 : Int) ^ IntKind.bits .u32 from (o18 a0 z3 z4 z11 l0 u0 f0 f1 e3 e4 e11)) (o19 a0 z3 z4 z11 l0 u0 f0 f1 e3 e4 e11) (o20 a0 z3 z4 z11 l0 u0 f0 f1 e3 e4 e11) (o21 a0 z3 z4 z11 l0 u0 f0 f1 e3 e4 e11) ((wrap_u32 _).trans (o22 a0 z3 z4 z11 l0 u0 f0 f1 e3 e4 e11))) ?_
  refine Pt.h_is (v_wr rfl  ((wrap_i64 _).trans (o23 a0 z3 z4 z11 l0 u0 f0 f1 e3 e4 e11))) ?_
  refine Pt.h_is (v_wr rfl  ((wrap_u32 _).trans (o24 a1 z5 z6 l1 u1 f2 f3 e5 e6))) ?_
  refine Pt.h_is (v_or0 rfl rfl (o25 a1 z5 z6 l1 u1 f2 f3 e5 e6) (show z5 < (2 : Int) ^ IntKind.bits .u32 from (o26 a1 z5 z6 l1 u1 f2 f3 e5 e6)) ((wrap_u32 _).trans (o24 a1 z5 z6 l1 u1 f2 f3 e5 e6))) ?_
  obtain ⟨z12, e12⟩ : ∃ z : Int, z = z5 * 256 := ⟨_, rfl⟩
  refine Pt.h_new (v_shl 8 256 rfl rfl (by decide) (by decide) ((wrap_u32 _).trans (o27 a1 z5 z6 z12 l1 u1 f2 f3 e5 e6 e12))) (show _ = [a0, a1, a2, z3, z4, z5, z6, z7, z8, z9, z10, z11, z12] from rfl) ?_
  refine Pt.h_is (v_wr rfl  ((wrap_u32 _).trans (o28 a1 z5 z6 z12 l1 u1 f2 f3 e5 e6 e12))) ?_
  refine Pt.h_is (v_or 8 256 rfl rfl (by decide) (by decide) (o29 a1 z5 z6 z12 l1 u1 f2 f3 e5 e6 e12) (show z12 < (2 : Int) ^ IntKind.bits .u32 from (o30 a1 z5 z6 z12 l1 u1 f2 f3 e5 e6 e12)) (o31 a1 z5 z6 z12 l1 u1 f2 f3 e5 e6 e12) (o32 a1 z5 z6 z12 l1 u1 f2 f3 e5 e6 e12) (o33 a1 z5 z6 z12 l1 u1 f2 f3 e5 e6 e12) ((wrap_u32 _).trans (o34 a1 z5 z6 z12 l1 u1 f2 f3 e5 e6 e12))) ?_
  refine Pt.h_is (v_wr rfl  ((wrap_i64 _).trans (o35 a1 z5 z6 z12 l1 u1 f2 f3 e5 e6 e12))) ?_
  refine Pt.h_is (v_wr rfl  ((wrap_u32 _).trans (o36 a2 z7 z8 z9 z10 l2 u2 f4 f5 e7 e8 e9 e10))) ?_
  refine Pt.h_is (v_or0 rfl rfl (o37 a2 z7 z8 z9 z10 l2 u2 f4 f5 e7 e8 e9 e10) (show z7 < (2 : Int) ^ IntKind.bits .u32 from (o38 a2 z7 z8 z9 z10 l2 u2 f4 f5 e7 e8 e9 e10)) ((wrap_u32 _).trans (o36 a2 z7 z8 z9 z10 l2 u2 f4 f5 e7 e8 e9 e10))) ?_
  obtain ⟨z13, e13⟩ : ∃ z : Int, z = z7 * 256 := ⟨_, rfl⟩
  refine Pt.h_new (v_shl 8 256 rfl rfl (by decide) (by decide) ((wrap_u32 _).trans (o39 a2 z7 z8 z9 z10 z13 l2 u2 f4 f5 e7 e8 e9 e10 e13))) (show _ = [a0, a1, a2, z3, z4, z5, z6, z7, z8, z9, z10, z11, z12, z13] from rfl) ?_
  refine Pt.h_is (v_wr rfl  ((wrap_u32 _).trans (o40 a2 z7 z8 z9 z10 z13 l2 u2 f4 f5 e7 e8 e9 e10 e13))) ?_
  refine Pt.h_is (v_or 8 256 rfl rfl (by decide) (by decide) (o41 a2 z7 z8 z9 z10 z13 l2 u2 f4 f5 e7 e8 e9 e10 e13) (show z13 < (2 : Int) ^ IntKind.bits .u32 from (o42 a2 z7 z8 z9 z10 z13 l2 u2 f4 f5 e7 e8 e9 e10 e13)) (o43 a2 z7 z8 z9 z10 z13 l2 u2 f4 f5 e7 e8 e9 e10 e13) (o44 a2 z7 z8 z9 z10 z13 l2 u2 f4 f5 e7 e8 e9 e10 e13) (o45 a2 z7 z8 z9 z10 z13 l2 u2 f4 f5 e7 e8 e9 e10 e13) ((wrap_u32 _).trans (o46 a2 z7 z8 z9 z10 z13 l2 u2 f4 f5 e7 e8 e9 e10 e13))) ?_
  obtain ⟨z14, e14⟩ : ∃ z : Int, z = z8 * 256 := ⟨_, rfl⟩
  refine Pt.h_new (v_shl 8 256 rfl rfl (by decide) (by decide) ((wrap_u32 _).trans (o47 a2 z7 z8 z9 z10 z13 z14 l2 u2 f4 f5 e7 e8 e9 e10 e13 e14))) (show _ = [a0, a1, a2, z3, z4, z5, z6, z7, z8, z9, z10, z11, z12, z13, z14] from rfl) ?_
  refine Pt.h_is (v_wr rfl  ((wrap_u32 _).trans (o48 a2 z7 z8 z9 z10 z13 z14 l2 u2 f4 f5 e7 e8 e9 e10 e13 e14))) ?_
  refine Pt.h_is (v_or 8 256 rfl rfl (by decide) (by decide) (o49 a2 z7 z8 z9 z10 z13 z14 l2 u2 f4 f5 e7 e8 e9 e10 e13 e14) (show z14 < (2 : Int) ^ IntKind.bits .u32 from (o50 a2 z7 z8 z9 z10 z13 z14 l2 u2 f4 f5 e7 e8 e9 e10 e13 e14)) (o51 a2 z7 z8 z9 z10 z13 z14 l2 u2 f4 f5 e7 e8 e9 e10 e13 e14) (o52 a2 z7 z8 z9 z10 z13 z14 l2 u2 f4 f5 e7 e8 e9 e10 e13 e14) (o53 a2 z7 z8 z9 z10 z13 z14 l2 u2 f4 f5 e7 e8 e9 e10 e13 e14) ((wrap_u32 _).trans (o54 a2 z7 z8 z9 z10 z13 z14 l2 u2 f4 f5 e7 e8 e9 e10 e13 e14))) ?_
  refine Pt.h_no (show ¬ a2 = 0 from (o55 a2 z7 z8 z9 z10 z13 z14 l2 u2 f4 f5 e7 e8 e9 e10 e13 e14)) ?_
  refine Pt.h_no (show ¬ a0 = 0 from (o56 a0 z3 z4 z11 l0 u0 f0 f1 e3 e4 e11)) ?_
  refine Pt.h_no (show ¬ 86400 < a2 from f5) ?_
  refine Pt.h_is (v_wr rfl  ((wrap_i64 _).trans (o57 a2 z7 z8 z9 z10 z13 z14 l2 u2 f4 f5 e7 e8 e9 e10 e13 e14))) ?_
  refine Pt.h_is (v_add rfl rfl  ((wrap_i64 _).trans (o58 a2 z7 z8 z9 z10 z13 z14 l2 u2 f4 f5 e7 e8 e9 e10 e13 e14))) ?_
  refine Pt.h_no (show ¬ a1 = 0 from (o59 a1 z5 z6 z12 l1 u1 f2 f3 e5 e6 e12)) ?_
  refine Pt.h_yes (show 0 < a2 from (o60 a2 z7 z8 z9 z10 z13 z14 l2 u2 f4 f5 e7 e8 e9 e10 e13 e14)) ?_
  refine Pt.h_yes (show 1 ≤ a1 from (o61 a1 z5 z6 z12 l1 u1 f2 f3 e5 e6 e12)) ?_
  refine Pt.h_yes (show a1 ≤ 65535 from (o62 a1 z5 z6 z12 l1 u1 f2 f3 e5 e6 e12)) ?_
  refine Pt.h_yes (show 1 ≤ a0 from (o63 a0 z3 z4 z11 l0 u0 f0 f1 e3 e4 e11)) ?_
  refine Pt.h_yes (show a0 ≤ 65535 from (o64 a0 z3 z4 z11 l0 u0 f0 f1 e3 e4 e11)) ?_
  refine Pt.h_is (v_shr 8 256 rfl rfl (by decide) (by decide) ((o65 a0 z3 z4 z11 l0 u0 f0 f1 e3 e4 e11))) ?_
  refine Pt.h_is (v_wr rfl  ((wrap_u8 _).trans (o66 a0 z3 z4 z11 l0 u0 f0 f1 e3 e4 e11))) ?_
  refine Pt.h_is (v_wr rfl  ((wrap_u8 _).trans (o67 a0 z3 z4 z11 l0 u0 f0 f1 e3 e4 e11))) ?_
  refine Pt.h_is (v_shr 8 256 rfl rfl (by decide) (by decide) ((o68 a1 z5 z6 z12 l1 u1 f2 f3 e5 e6 e12))) ?_
  refine Pt.h_is (v_wr rfl  ((wrap_u8 _).trans (o69 a1 z5 z6 z12 l1 u1 f2 f3 e5 e6 e12))) ?_
  refine Pt.h_is (v_wr rfl  ((wrap_u8 _).trans (o70 a1 z5 z6 z12 l1 u1 f2 f3 e5 e6 e12))) ?_
  refine Pt.h_is (v_shr 24 16777216 rfl rfl (by decide) (by decide) ((o71 a2 z7 z8 z9 z10 z13 z14 l2 u2 f4 f5 e7 e8 e9 e10 e13 e14))) ?_
  refine Pt.h_is (v_shr 16 65536 rfl rfl (by decide) (by decide) ((o72 a2 z7 z8 z9 z10 z13 z14 l2 u2 f4 f5 e7 e8 e9 e10 e13 e14))) ?_
  refine Pt.h_is (v_wr rfl  ((wrap_u8 _).trans (o73 a2 z7 z8 z9 z10 z13 z14 l2 u2 f4 f5 e7 e8 e9 e10 e13 e14))) ?_
  refine Pt.h_is (v_shr 8 256 rfl rfl (by decide) (by decide) ((o74 a2 z7 z8 z9 z10 z13 z14 l2 u2 f4 f5 e7 e8 e9 e10 e13 e14))) ?_
  refine Pt.h_is (v_wr rfl  ((wrap_u8 _).trans (o75 a2 z7 z8 z9 z10 z13 z14 l2 u2 f4 f5 e7 e8 e9 e10 e13 e14))) ?_
  refine Pt.h_is (v_wr rfl  ((wrap_u8 _).trans (o76 a2 z7 z8 z9 z10 z13 z14 l2 u2 f4 f5 e7 e8 e9 e10 e13 e14))) ?_
  refine Pt.h_is (v_shr 8 256 rfl rfl (by decide) (by decide) ((o65 a0 z3 z4 z11 l0 u0 f0 f1 e3 e4 e11))) ?_
  refine Pt.h_is (v_wr rfl  ((wrap_u8 _).trans (o66 a0 z3 z4 z11 l0 u0 f0 f1 e3 e4 e11))) ?_
  refine Pt.h_is (v_wr rfl  ((wrap_u8 _).trans (o67 a0 z3 z4 z11 l0 u0 f0 f1 e3 e4 e11))) ?_
  refine Pt.h_is (v_wr rfl  ((wrap_u32 _).trans (o77 a0 z3 z4 z11 l0 u0 f0 f1 e3 e4 e11))) ?_
  refine Pt.h_is (v_or0 rfl rfl (o78 a0 z3 z4 z11 l0 u0 f0 f1 e3 e4 e11) (show z3 < (2 : Int) ^ IntKind.bits .u32 from (o79 a0 z3 z4 z11 l0 u0 f0 f1 e3 e4 e11)) ((wrap_u32 _).trans (o77 a0 z3 z4 z11 l0 u0 f0 f1 e3 e4 e11))) ?_
  refine Pt.h_is (v_shl 8 256 rfl rfl (by decide) (by decide) ((wrap_u32 _).trans (o15 a0 z3 z4 z11 l0 u0 f0 f1 e3 e4 e11))) ?_
  refine Pt.h_is (v_wr rfl  ((wrap_u32 _).trans (o16 a0 z3 z4 z11 l0 u0 f0 f1 e3 e4 e11))) ?_
  refine Pt.h_is (v_or 8 256 rfl rfl (by decide) (by decide) (o17 a0 z3 z4 z11 l0 u0 f0 f1 e3 e4 e11) (show z11 < (2 : Int) ^ IntKind.bits .u32 from (o18 a0 z3 z4 z11 l0 u0 f0 f1 e3 e4 e11)) (o19 a0 z3 z4 z11 l0 u0 f0 f1 e3 e4 e11) (o20 a0 z3 z4 z11 l0 u0 f0 f1 e3 e4 e11) (o21 a0 z3 z4 z11 l0 u0 f0 f1 e3 e4 e11) ((wrap_u32 _).trans (o22 a0 z3 z4 z11 l0 u0 f0 f1 e3 e4 e11))) ?_
  refine Pt.h_is (v_wr rfl  ((wrap_i64 _).trans (o23 a0 z3 z4 z11 l0 u0 f0 f1 e3 e4 e11))) ?_
  refine Pt.h_yes (show 0 < a2 from (o60 a2 z7 z8 z9 z10 z13 z14 l2 u2 f4 f5 e7 e8 e9 e10 e13 e14)) ?_
  refine Pt.h_is (v_shr 8 256 rfl rfl (by decide) (by decide) ((o65 a0 z3 z4 z11 l0 u0 f0 f1 e3 e4 e11))) ?_
  refine Pt.h_is (v_wr rfl  ((wrap_u8 _).trans (o66 a0 z3 z4 z11 l0 u0 f0 f1 e3 e4 e11))) ?_
  refine Pt.h_is (v_wr rfl  ((wrap_u8 _).trans (o67 a0 z3 z4 z11 l0 u0 f0 f1 e3 e4 e11))) ?_
  refine Pt.h_yes (show 0 < a2 from (o60 a2 z7 z8 z9 z10 z13 z14 l2 u2 f4 f5 e7 e8 e9 e10 e13 e14)) ?_
  refine Pt.h_yes (show 0 < a2 from (o60 a2 z7 z8 z9 z10 z13 z14 l2 u2 f4 f5 e7 e8 e9 e10 e13 e14)) ?_
  refine Pt.h_yes (show a1 = a1 from (o80 a1 z5 z6 z12 l1 u1 f2 f3 e5 e6 e12)) ?_
  refine Pt.h_yes (show 0 < a2 from (o60 a2 z7 z8 z9 z10 z13 z14 l2 u2 f4 f5 e7 e8 e9 e10 e13 e14)) ?_
  refine Pt.h_is (v_shr 8 256 rfl rfl (by decide) (by decide) ((o65 a0 z3 z4 z11 l0 u0 f0 f1 e3 e4 e11))) ?_
  refine Pt.h_is (v_wr rfl  ((wrap_u8 _).trans (o66 a0 z3 z4 z11 l0 u0 f0 f1 e3 e4 e11))) ?_
  refine Pt.h_is (v_wr rfl  ((wrap_u8 _).trans (o67 a0 z3 z4 z11 l0 u0 f0 f1 e3 e4 e11))) ?_
  refine Pt.h_is (v_shr 8 256 rfl rfl (by decide) (by decide) ((o68 a1 z5 z6 z12 l1 u1 f2 f3 e5 e6 e12))) ?_
  refine Pt.h_is (v_wr rfl  ((wrap_u8 _).trans (o69 a1 z5 z6 z12 l1 u1 f2 f3 e5 e6 e12))) ?_
  refine Pt.h_is (v_wr rfl  ((wrap_u8 _).trans (o70 a1 z5 z6 z12 l1 u1 f2 f3 e5 e6 e12))) ?_
  refine Pt.h_is (v_shr 24 16777216 rfl rfl (by decide) (by decide) ((o71 a2 z7 z8 z9 z10 z13 z14 l2 u2 f4 f5 e7 e8 e9 e10 e13 e14))) ?_
  refine Pt.h_is (v_shr 16 65536 rfl rfl (by decide) (by decide) ((o72 a2 z7 z8 z9 z10 z13 z14 l2 u2 f4 f5 e7 e8 e9 e10 e13 e14))) ?_
  exact t7 a0 a1 a2 z3 z4 z5 z6 z7 z8 z9 z10 z11 z12 z13 z14 l0 u0 l1 u1 l2 u2 f0 f1 f2 f3 f4 f5 e3 e4 e5 e6 e7 e8 e9 e10 e11 e12 e13 e14

theorem t5 (a0 a1 a2 : Int) (l0 : (-9223372036854775808) ≤ a0) (u0 : a0 ≤ 9223372036854775807) (l1 : (-9223372036854775808) ≤ a1) (u1 : a1 ≤ 9223372036854775807) (l2 : 0 ≤ a2) (u2 : a2 ≤ 4294967295) (f0 : ¬ a0 < 1) (f1 : ¬ 65535 < a0) (f2 : ¬ a1 < 1) (f3 : ¬ 65535 < a1) (f4 : ¬ a2 < 1) : T4.holds [a0, a1, a2] := by
  refine Pt.h_fork (fun (f5 : 86400 < a2) => ?_) (fun (f5 : ¬ 86400 < a2) => ?_)
  · skip
    exact Pt.h_done
  · skip
    exact t6 a0 a1 a2 l0 u0 l1 u1 l2 u2 f0 f1 f2 f3 f4 f5

theorem t4 (a0 a1 a2 : Int) (l0 : (-9223372036854775808) ≤ a0) (u0 : a0 ≤ 9223372036854775807) (l1 : (-9223372036854775808) ≤ a1) (u1 : a1 ≤ 9223372036854775807) (l2 : 0 ≤ a2) (u2 : a2 ≤ 4294967295) (f0 : ¬ a0 < 1) (f1 : ¬ 65535 < a0) (f2 : ¬ a1 < 1) (f3 : ¬ 65535 < a1) : T5.holds [a0, a1, a2] := by
  refine Pt.h_fork (fun (f4 : a2 < 1) => ?_) (fun (f4 : ¬ a2 < 1) => ?_)
  · skip
    exact Pt.h_done
  · skip
    exact t5 a0 a1 a2 l0 u0 l1 u1 l2 u2 f0 f1 f2 f3 f4

theorem t3 (a0 a1 a2 : Int) (l0 : (-9223372036854775808) ≤ a0) (u0 : a0 ≤ 9223372036854775807) (l1 : (-9223372036854775808) ≤ a1) (u1 : a1 ≤ 9223372036854775807) (l2 : 0 ≤ a2) (u2 : a2 ≤ 4294967295) (f0 : ¬ a0 < 1) (f1 : ¬ 65535 < a0) (f2 : ¬ a1 < 1) : T6.holds [a0, a1, a2] := by
  refine Pt.h_fork (fun (f3 : 65535 < a1) => ?_) (fun (f3 : ¬ 65535 < a1) => ?_)
  · skip
    exact Pt.h_done
  · skip
    exact t4 a0 a1 a2 l0 u0 l1 u1 l2 u2 f0 f1 f2 f3

theorem t2 (a0 a1 a2 : Int) (l0 : (-9223372036854775808) ≤ a0) (u0 : a0 ≤ 9223372036854775807) (l1 : (-9223372036854775808) ≤ a1) (u1 : a1 ≤ 9223372036854775807) (l2 : 0 ≤ a2) (u2 : a2 ≤ 4294967295) (f0 : ¬ a0 < 1) (f1 : ¬ 65535 < a0) : T7.holds [a0, a1, a2] := by
  refine Pt.h_fork (fun (f2 : a1 < 1) => ?_) (fun (f2 : ¬ a1 < 1) => ?_)
  · skip
    exact Pt.h_done
  · skip
    exact t3 a0 a1 a2 l0 u0 l1 u1 l2 u2 f0 f1 f2

theorem t1 (a0 a1 a2 : Int) (l0 : (-9223372036854775808) ≤ a0) (u0 : a0 ≤ 9223372036854775807) (l1 : (-9223372036854775808) ≤ a1) (u1 : a1 ≤ 9223372036854775807) (l2 : 0 ≤ a2) (u2 : a2 ≤ 4294967295) (f0 : ¬ a0 < 1) : T8.holds [a0, a1, a2] := by
  refine Pt.h_fork (fun (f1 : 65535 < a0) => ?_) (fun (f1 : ¬ 65535 < a0) => ?_)
  · skip
    exact Pt.h_done
  · skip
    exact t2 a0 a1 a2 l0 u0 l1 u1 l2 u2 f0 f1

theorem t0 (a0 a1 a2 : Int) (l0 : (-9223372036854775808) ≤ a0) (u0 : a0 ≤ 9223372036854775807) (l1 : (-9223372036854775808) ≤ a1) (u1 : a1 ≤ 9223372036854775807) (l2 : 0 ≤ a2) (u2 : a2 ≤ 4294967295) : T9.holds [a0, a1, a2] := by
  refine Pt.h_fork (fun (f0 : a0 < 1) => ?_) (fun (f0 : ¬ a0 < 1) => ?_)
  · skip
    exact Pt.h_done
  · skip
    exact t1 a0 a1 a2 l0 u0 l1 u1 l2 u2 f0

end Go.Proofs.Ytfkbofbdonmpfaa.pmpOthers
