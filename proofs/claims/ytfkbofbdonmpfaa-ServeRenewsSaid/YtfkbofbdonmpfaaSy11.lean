/- The machine with names for integers: what is to be shown, in plain numbers. -/
import Derived.Test.YtfkbofbdonmpfaaSy10
set_option linter.unusedSimpArgs false
set_option linter.unusedVariables false
set_option linter.unusedSectionVars false
set_option linter.unnecessarySimpa false
namespace Go.Am

section
variable {l : List Int} {t a b : Pt} {q : Qq} {d : Dd} {x y : O}

theorem Pt.h_done : Pt.done.holds l := trivial
theorem Pt.h_yes (h : q.holds l) (k : t.holds l) : (Pt.yes q t).holds l := ⟨h, k⟩
theorem Pt.h_no (h : ¬ q.holds l) (k : t.holds l) : (Pt.no q t).holds l := ⟨h, k⟩
theorem Pt.h_fork (h : q.holds l → a.holds l) (k : ¬ q.holds l → b.holds l) : (Pt.fork q a b).holds l := ⟨h, k⟩
theorem Pt.h_is (h : d.val l = some (x.val l)) (k : t.holds l) : (Pt.is d x t).holds l := ⟨h, k⟩
theorem Pt.h_new {z : Int} {l' : List Int} (h : d.val l = some z) (hl : l ++ [z] = l') (k : t.holds l') : (Pt.new d t).holds l := ⟨z, h, hl ▸ k⟩

theorem wrap_i64 (n : Int) : IntKind.wrap .i64 n = (n + 9223372036854775808) % 18446744073709551616 - 9223372036854775808 := by
  have e : IntKind.wrap .i64 n = if n % 18446744073709551616 ≥ 9223372036854775808 then n % 18446744073709551616 - 18446744073709551616 else n % 18446744073709551616 := by
    unfold IntKind.wrap
    simp [IntKind.bits, IntKind.signed]
  rw [e]
  split <;> omega
theorem wrap_i32 (n : Int) : IntKind.wrap .i32 n = (n + 2147483648) % 4294967296 - 2147483648 := by
  have e : IntKind.wrap .i32 n = if n % 4294967296 ≥ 2147483648 then n % 4294967296 - 4294967296 else n % 4294967296 := by
    unfold IntKind.wrap
    simp [IntKind.bits, IntKind.signed]
  rw [e]
  split <;> omega
theorem wrap_u64 (n : Int) : IntKind.wrap .u64 n = n % 18446744073709551616 := by simp [IntKind.wrap, IntKind.bits, IntKind.signed]
theorem wrap_u32 (n : Int) : IntKind.wrap .u32 n = n % 4294967296 := by simp [IntKind.wrap, IntKind.bits, IntKind.signed]
theorem wrap_u16 (n : Int) : IntKind.wrap .u16 n = n % 65536 := by simp [IntKind.wrap, IntKind.bits, IntKind.signed]
theorem wrap_u8 (n : Int) : IntKind.wrap .u8 n = n % 256 := by simp [IntKind.wrap, IntKind.bits, IntKind.signed]

/-! Values of what is reckoned: 'z' is what the kind makes of it. -/
variable {k : IntKind} {m n z : Int}

theorem v_add (hx : x.val l = m) (hy : y.val l = n) (h : k.wrap (m + n) = z) : (Dd.ib .add k x y).val l = some z := by simp only [Dd.val, hx, hy, ibin, intOf, h]
theorem v_sub (hx : x.val l = m) (hy : y.val l = n) (h : k.wrap (m - n) = z) : (Dd.ib .sub k x y).val l = some z := by simp only [Dd.val, hx, hy, ibin, intOf, h]
theorem v_mul (hx : x.val l = m) (hy : y.val l = n) (h : k.wrap (m * n) = z) : (Dd.ib .mul k x y).val l = some z := by simp only [Dd.val, hx, hy, ibin, intOf, h]
theorem v_wr (hx : x.val l = m) (h : k.wrap m = z) : (Dd.wr k x).val l = some z := by simp only [Dd.val, hx, h]
theorem v_neg (hx : x.val l = m) (h : k.wrap (0 - m) = z) : (Dd.un .neg k x).val l = some z := by simp only [Dd.val, hx, Am.un, intOf, h]

theorem v_quo (hx : x.val l = m) (hy : y.val l = n) (hm : 0 ≤ m) (hn : 0 < n) (h : k.wrap (m / n) = z) : (Dd.ib .quo k x y).val l = some z := by
  simp only [Dd.val, hx, hy, ibin]
  rw [if_neg (by omega), Int.tdiv_eq_ediv_of_nonneg hm]
  simp only [intOf, h]
theorem v_rem (hx : x.val l = m) (hy : y.val l = n) (hm : 0 ≤ m) (hn : 0 < n) (h : m % n = z) : (Dd.ib .rem k x y).val l = some z := by
  simp only [Dd.val, hx, hy, ibin]
  rw [if_neg (by omega), Int.tmod_eq_emod_of_nonneg hm]
  simp only [intOf, h]

theorem v_shr (c : Nat) (p : Int) (hx : x.val l = m) (hy : y.val l = (c : Int)) (hc : c ≤ k.bits) (hp : (2 : Int) ^ c = p) (h : m / p = z) : (Dd.sh .shr k x y).val l = some z := by
  simp only [Dd.val, hx, hy, shft]
  rw [if_neg (by omega)]
  have : min (Int.toNat (c : Int)) k.bits = c := by rw [Int.toNat_natCast]; exact Nat.min_eq_left hc
  rw [this, hp, Int.fdiv_eq_ediv_of_nonneg _ (by rw [← hp]; exact Int.pow_nonneg (by omega))]
  simp only [intOf, h]
theorem v_shl (c : Nat) (p : Int) (hx : x.val l = m) (hy : y.val l = (c : Int)) (hc : c ≤ k.bits) (hp : (2 : Int) ^ c = p) (h : k.wrap (m * p) = z) : (Dd.sh .shl k x y).val l = some z := by
  simp only [Dd.val, hx, hy, shft]
  rw [if_neg (by omega)]
  have : min (Int.toNat (c : Int)) k.bits = c := by rw [Int.toNat_natCast]; exact Nat.min_eq_left hc
  rw [this, hp]
  simp only [intOf, h]

theorem bv_mod (b : Nat) (m : Int) : (BitVec.ofInt b m).toNat = (m % (2 ^ b : Nat)).toNat := by simp [BitVec.toNat_ofInt]

theorem and_mask (b c : Nat) (m : Int) (hc : c ≤ b) : ((BitVec.ofInt b m &&& BitVec.ofInt b ((2 : Int) ^ c - 1)).toNat : Int) = m % (2 : Int) ^ c := by
  rw [BitVec.toNat_and, bv_mod, bv_mod]
  have hp : 0 < 2 ^ c := Nat.two_pow_pos c
  have hle : 2 ^ c ≤ 2 ^ b := Nat.pow_le_pow_right (by omega) hc
  have e1 : ((2 : Int) ^ c - 1) = ((2 ^ c - 1 : Nat) : Int) := by
    rw [Int.natCast_sub (by omega)]; simp
  have e2 : (((2 : Int) ^ c - 1) % ((2 ^ b : Nat) : Int)).toNat = 2 ^ c - 1 := by
    rw [e1]
    have h2 : (((2 ^ c - 1 : Nat) : Int) % ((2 ^ b : Nat) : Int)) = (((2 ^ c - 1) % 2 ^ b : Nat) : Int) := by simp
    rw [h2, Int.toNat_natCast, Nat.mod_eq_of_lt (by omega)]
  rw [e2, Nat.and_two_pow_sub_one_eq_mod]
  have hdvd : ((2 : Int) ^ c) ∣ ((2 ^ b : Nat) : Int) := by
    refine ⟨(2 : Int) ^ (b - c), ?_⟩
    rw [← Int.pow_add]
    simp [show c + (b - c) = b by omega]
  have hnn : 0 ≤ m % ((2 ^ b : Nat) : Int) := Int.emod_nonneg _ (by have := Nat.two_pow_pos b; omega)
  have h3 : (((m % ((2 ^ b : Nat) : Int)).toNat % 2 ^ c : Nat) : Int) = (m % ((2 ^ b : Nat) : Int)) % (2 : Int) ^ c := by
    rw [Int.natCast_emod, Int.toNat_of_nonneg hnn]; simp
  rw [h3, Int.emod_emod_of_dvd _ hdvd]

theorem v_and (c : Nat) (p : Int) (hx : x.val l = m) (hy : y.val l = p - 1) (hc : c ≤ k.bits) (hp : (2 : Int) ^ c = p) (h : k.wrap (m % p) = z) : (Dd.ib .and k x y).val l = some z := by
  simp only [Dd.val, hx, hy, ibin, intOf]
  rw [← hp, and_mask _ _ _ hc, hp, h]

theorem or_add (b c : Nat) (m n : Int) (h1 : 0 ≤ m) (h2 : m < 2 ^ b) (h3 : m % 2 ^ c = 0) (h4 : 0 ≤ n) (h5 : n < 2 ^ c) (hc : c ≤ b) : ((BitVec.ofInt b m ||| BitVec.ofInt b n).toNat : Int) = m + n := by
  rw [BitVec.toNat_or, bv_mod, bv_mod]
  obtain ⟨m, rfl⟩ := Int.eq_ofNat_of_zero_le h1
  obtain ⟨n, rfl⟩ := Int.eq_ofNat_of_zero_le h4
  have hle : 2 ^ c ≤ 2 ^ b := Nat.pow_le_pow_right (by omega) hc
  have hm : m < 2 ^ b := by exact_mod_cast h2
  have hn : n < 2 ^ c := by exact_mod_cast h5
  have e1 : ((m : Int) % ((2 ^ b : Nat) : Int)).toNat = m := by
    have : ((m : Int) % ((2 ^ b : Nat) : Int)) = ((m % 2 ^ b : Nat) : Int) := by simp
    rw [this, Int.toNat_natCast, Nat.mod_eq_of_lt hm]
  have e2 : ((n : Int) % ((2 ^ b : Nat) : Int)).toNat = n := by
    have : ((n : Int) % ((2 ^ b : Nat) : Int)) = ((n % 2 ^ b : Nat) : Int) := by simp
    rw [this, Int.toNat_natCast, Nat.mod_eq_of_lt (by omega)]
  rw [e1, e2]
  have h3' : m % 2 ^ c = 0 := by exact_mod_cast h3
  have hm2 : m = 2 ^ c * (m / 2 ^ c) := by have := Nat.div_add_mod m (2 ^ c); omega
  rw [hm2, ← Nat.two_pow_add_eq_or_of_lt hn]
  simp

theorem v_or (c : Nat) (p : Int) (hx : x.val l = m) (hy : y.val l = n) (hp : (2 : Int) ^ c = p) (hc : c ≤ k.bits) (h1 : 0 ≤ m) (h2 : m < 2 ^ k.bits) (h3 : m % p = 0) (h4 : 0 ≤ n) (h5 : n < p) (h : k.wrap (m + n) = z) : (Dd.ib .or k x y).val l = some z := by
  subst hp
  simp only [Dd.val, hx, hy, ibin, intOf]
  rw [or_add _ c m n h1 h2 h3 h4 h5 hc, h]

theorem v_or0 (hx : x.val l = 0) (hy : y.val l = n) (h4 : 0 ≤ n) (h5 : n < 2 ^ k.bits) (h : k.wrap n = z) : (Dd.ib .or k x y).val l = some z := by
  simp only [Dd.val, hx, hy, ibin, intOf]
  have : (BitVec.ofInt k.bits 0 ||| BitVec.ofInt k.bits n).toNat = n.toNat := by
    rw [BitVec.toNat_or, bv_mod, bv_mod]
    obtain ⟨n, rfl⟩ := Int.eq_ofNat_of_zero_le h4
    have hn : n < 2 ^ k.bits := by exact_mod_cast h5
    have e2 : ((n : Int) % ((2 ^ k.bits : Nat) : Int)).toNat = n := by
      have : ((n : Int) % ((2 ^ k.bits : Nat) : Int)) = ((n % 2 ^ k.bits : Nat) : Int) := by simp
      rw [this, Int.toNat_natCast, Nat.mod_eq_of_lt hn]
    rw [e2]; simp
  rw [this, Int.toNat_of_nonneg h4, h]

theorem v_by (hx : x.val l = m) (h1 : 0 ≤ m) (h : m % 256 = z) : (Dd.by_ x).val l = some z := by
  simp only [Dd.val, hx]
  have : (UInt8.ofNat m.toNat).toNat = m.toNat % 256 := by simp
  rw [this]
  have : ((m.toNat % 256 : Nat) : Int) = m % 256 := by omega
  rw [this, h]

end

/-- An argument that is a name. -/
def nameV (k : IntKind) (i : Nat) : V := .i k ((nameB + (midB + stepB * i) : Nat) : Int)
theorem val_nameV (ρ : Nat → Int) (k : IntKind) (i : Nat) : val ρ (nameV k i) = .i k (ρ i) := by simp only [nameV, val, vi_name]

theorem wf_i64 {n : Int} (h : (Lit.int .i64 n).wf = true) : -9223372036854775808 ≤ n ∧ n ≤ 9223372036854775807 := by
  simp only [Lit.wf, Bool.and_eq_true, decide_eq_true_eq] at h; exact h
theorem wf_u32 {n : Int} (h : (Lit.int .u32 n).wf = true) : 0 ≤ n ∧ n ≤ 4294967295 := by
  simp only [Lit.wf, Bool.and_eq_true, decide_eq_true_eq] at h; exact h
theorem wf_u8 {n : Int} (h : (Lit.int .u8 n).wf = true) : 0 ≤ n ∧ n ≤ 255 := by
  simp only [Lit.wf, Bool.and_eq_true, decide_eq_true_eq] at h; exact h

end Go.Am
