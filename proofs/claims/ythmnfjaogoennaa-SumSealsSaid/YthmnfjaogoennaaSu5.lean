/- Bytes with their sum in them fit; with one bit turned they don't: the walk. -/
import Derived.Test.YthmnfjaogoennaaSu4
set_option linter.unusedSimpArgs false
set_option linter.unusedVariables false
set_option linter.unusedSectionVars false
set_option linter.unnecessarySimpa false
set_option maxRecDepth 100000
namespace Go.Sum

theorem nrm_full {s : Nat} (h : s % 65535 = 0) (h0 : s ≠ 0) : nrm s = 65535 := by unfold nrm; rw [if_neg h0]; omega
theorem nrm_not {s : Nat} (h : s % 65535 ≠ 0) : nrm s ≠ 65535 := by unfold nrm; split <;> omega

/-- One word is laid anew. -/
theorem wsum_word {bs : List UInt8} {i : Nat} (hi : 2 * i + 1 < bs.length) (x y : UInt8) : wsum ((bs.set (2 * i) x).set (2 * i + 1) y) + wAt bs i = wsum bs + (x.toNat * 256 + y.toNat) := by
  rw [wsum_eq, wsum_eq]
  simp only [List.length_set]
  have := sumTo_one (f := wAt ((bs.set (2 * i) x).set (2 * i + 1) y)) (g := wAt bs) (i := i) ((bs.length + 1) / 2) (by omega) fun j hj hne => by
    simp only [wAt, getD_set, List.length_set]
    simp (disch := omega) only [if_pos, if_neg, true_and]
  rw [this]
  congr 1
  simp only [wAt, getD_set, List.length_set]
  simp (disch := omega) only [if_pos, if_neg, true_and]

/-- One byte is laid anew. -/
theorem wsum_byte {bs : List UInt8} {i : Nat} (hi : i < bs.length) (x : UInt8) : wsum (bs.set i x) + (bs.getD i 0).toNat * (if i % 2 = 0 then 256 else 1) = wsum bs + x.toNat * (if i % 2 = 0 then 256 else 1) := by
  rw [wsum_eq, wsum_eq]
  simp only [List.length_set]
  have := sumTo_one (f := wAt (bs.set i x)) (g := wAt bs) (i := i / 2) ((bs.length + 1) / 2) (by omega) fun j hj hne => by
    simp only [wAt, getD_set]
    simp (disch := omega) only [if_pos, if_neg, true_and]
  have e1 : wAt bs (i / 2) + x.toNat * (if i % 2 = 0 then 256 else 1) = wAt (bs.set i x) (i / 2) + (bs.getD i 0).toNat * (if i % 2 = 0 then 256 else 1) := by
    by_cases hp : i % 2 = 0
    · simp only [wAt, getD_set, if_pos hp]
      rw [show 2 * (i / 2) = i by omega]
      simp (disch := omega) only [if_pos, if_neg, true_and]
      omega
    · simp only [wAt, getD_set, if_neg hp]
      rw [show 2 * (i / 2) + 1 = i by omega]
      simp (disch := omega) only [if_pos, if_neg, true_and]
      omega
  omega

theorem seal_sum (s : Nat) : (s + (65535 - nrm s)) % 65535 = 0 ∧ s + (65535 - nrm s) ≠ 0 := by
  by_cases h : s = 0
  · subst h; decide
  · unfold nrm; rw [if_neg h]; omega

def turnB (v : UInt8) (j : Nat) : UInt8 := UInt8.ofNat (v.toNat ^^^ 2 ^ j)
theorem turnB_ok (v : UInt8) {j : Nat} (hj : j < 8) : (turnB v j).toNat = v.toNat + 2 ^ j ∨ ((turnB v j).toNat + 2 ^ j = v.toNat) := by
  have key : ∀ v : Fin 256, ∀ j : Fin 8, (v.val ^^^ 2 ^ j.val) % 256 = v.val + 2 ^ j.val ∨ (v.val ^^^ 2 ^ j.val) % 256 + 2 ^ j.val = v.val := by decide +kernel
  have := key ⟨v.toNat, v.toNat_lt⟩ ⟨j, hj⟩
  unfold turnB
  rw [UInt8.toNat_ofNat']
  exact this

theorem pow_lt {j : Nat} (h : j < 8) : 1 ≤ 2 ^ j ∧ 2 ^ j ≤ 128 := by
  match j, h with
  | 0, _ | 1, _ | 2, _ | 3, _ | 4, _ | 5, _ | 6, _ | 7, _ => decide

/-- A bit turned in bytes that fit: they don't fit. -/
theorem turned {bs : List UInt8} (h : wsum bs % 65535 = 0) {i j : Nat} (hi : i < bs.length) (hj : j < 8) : nrm (wsum (bs.set i (turnB (bs.getD i 0) j))) ≠ 65535 := by
  refine nrm_not ?_
  have h1 := wsum_byte hi (turnB (bs.getD i 0) j)
  have h2 := turnB_ok (bs.getD i 0) hj
  have h3 := pow_lt hj
  generalize 2 ^ j = p at *
  generalize (turnB (bs.getD i 0) j).toNat = x at *
  generalize (bs.getD i 0).toNat = y at *
  by_cases hp : i % 2 = 0
  · rw [if_pos hp] at h1; omega
  · rw [if_neg hp] at h1; omega
end Go.Sum
namespace Go.Proofs.Ythmnfjaogoennaa.Wb
open Go.Am Go.Sum

theorem seals_ok {n : Nat} (hn : 6 ≤ n) {h : H} {v : V} {bs : List UInt8} {at' bit : Int} (hb : BytesAt h v bs) (hl : bs.length ≤ 9223372036854775807) : Ok Try.prog n 5 [v, .i .i64 at', .i .i64 bit] h (fun v _ => v = .b true) := by
  obtain ⟨n, rfl⟩ := Nat.exists_eq_add_of_le' hn
  refine K5 fun hbd => ?_
  simp (disch := omega) only [F5, ws]
  refine awake_ok (by omega) fun h1 hbd1 hbut => ?_
  replace hb : BytesAt h1 v bs := hb.but hbd hbut (.inr rfl)
  simp (disch := omega) only [F5_5, ws, Bool.not_true, ls22 hb]
  by_cases c1 : (bs.length : Int) < 2
  · simp (disch := omega) only [ws, ls22 hb, dec_t, dec_f]
  by_cases c2 : 400 < (bs.length : Int)
  · simp (disch := omega) only [ws, ls22 hb, dec_t, dec_f]
  by_cases c3 : at' < 0
  · simp (disch := omega) only [ws, ls22 hb, dec_t, dec_f]
  by_cases c4 : at' % 2 = 1
  · simp (disch := omega) only [ws, ls22 hb, dec_t, dec_f]
  by_cases c5 : (bs.length : Int) - 2 < at'
  · simp (disch := omega) only [ws, ls22 hb, dec_t, dec_f]
  by_cases c6 : bit < 0
  · simp (disch := omega) only [ws, ls22 hb, dec_t, dec_f]
  by_cases c7 : 8 * (bs.length : Int) ≤ bit
  · simp (disch := omega) only [ws, ls22 hb, dec_t, dec_f]
  simp (disch := omega) only [ws, ls22 hb, dec_t, dec_f, F5_9]
  refine copy_ok hb hbd1 (by omega) fun c h2 hv hb2 hq => ?_
  obtain ⟨at', rfl⟩ := Int.eq_ofNat_of_zero_le (show 0 ≤ at' by omega)
  obtain ⟨bit, rfl⟩ := Int.eq_ofNat_of_zero_le (show 0 ≤ bit by omega)
  obtain ⟨i, rfl⟩ : ∃ i, at' = 2 * i := ⟨at' / 2, by omega⟩
  refine bytes_set hv (i := 2 * i) rfl (by omega) (d := 0) rfl fun h3 hv hb3 => ?_
  refine bytes_set hv (i := 2 * i + 1) rfl (by simp; omega) (d := 0) rfl fun h4 hv hb4 => ?_
  generalize hbs0 : (bs.set (2 * i) 0).set (2 * i + 1) 0 = b0 at hv
  have hl0 : b0.length = bs.length := by rw [← hbs0]; simp
  refine of_ok (by omega) hv.bytes (by omega) ?_
  have hs := sOf_lt b0
  simp (disch := omega) only [ws, ci_u8m]
  have e1 : ∀ m : Nat, m < 256 → ((m : Int) = ((UInt8.ofNat m).toNat : Int)) := fun m hm => by rw [UInt8.toNat_ofNat']; omega
  have e2 : ((sOf b0 : Int) / 256 = ((UInt8.ofNat (sOf b0 / 256)).toNat : Int)) := by rw [← e1 _ (by omega)]; omega
  have e3 : ((sOf b0 : Int) % 256 = ((UInt8.ofNat (sOf b0 % 256)).toNat : Int)) := by rw [← e1 _ (by omega)]; omega
  refine bytes_set hv (i := 2 * i) rfl (by omega) e2 fun h5 hv hb5 => ?_
  refine bytes_set hv (i := 2 * i + 1) rfl (by simp; omega) e3 fun h6 hv hb6 => ?_
  have w0 : wAt b0 i = 0 := by
    rw [← hbs0]
    simp only [wAt, getD_set, List.length_set]
    simp (disch := omega) only [if_pos, if_neg, true_and]
    rfl
  have w1 := wsum_word (bs := b0) (i := i) (by omega) (UInt8.ofNat (sOf b0 / 256)) (UInt8.ofNat (sOf b0 % 256))
  have w2 : (UInt8.ofNat (sOf b0 / 256)).toNat * 256 + (UInt8.ofNat (sOf b0 % 256)).toNat = sOf b0 := by
    have := e1 (sOf b0 / 256) (by omega); have := e1 (sOf b0 % 256) (by omega); omega
  rw [w0, w2, Nat.add_zero] at w1
  generalize hbs1 : (b0.set (2 * i) (UInt8.ofNat (sOf b0 / 256))).set (2 * i + 1) (UInt8.ofNat (sOf b0 % 256)) = b1 at hv w1
  have hl1 : b1.length = bs.length := by rw [← hbs1]; simp; exact hl0
  have hz : wsum b1 % 65535 = 0 ∧ wsum b1 ≠ 0 := by
    rw [w1]
    exact seal_sum (wsum b0)
  refine fits_ok (by omega) hv.bytes (by omega) ?_
  have hf : sOf b1 = 0 := by unfold sOf; rw [nrm_full hz.1 hz.2]
  simp (disch := omega) only [ws, hf, decide_true, Bool.not_true, F5_43]
  rw [bytes_get hv.bytes (i := bit / 8) (by omega) (by omega)]
  have hj : bit % 8 < 8 := Nat.mod_lt _ (by omega)
  have e4 : ((bit : Int) % 8) = ((bit % 8 : Nat) : Int) := by omega
  have e5 := pow_lt hj
  rw [e4, sl_k (bit % 8) (by simp [IntKind.bits]; omega), Int.one_mul, xo_i]
  have e6 : IntKind.u8.wrap ((2 : Int) ^ (bit % 8)) = ((2 ^ (bit % 8) : Nat) : Int) := by
    rw [wrap_u8']
    have : ((2 : Int) ^ (bit % 8)) = ((2 ^ (bit % 8) : Nat) : Int) := by simp
    rw [this]; omega
  have b2 := byt_lt b1 (bit / 8)
  have e7 : IntKind.u8.wrap ((BitVec.ofInt IntKind.u8.bits ((b1.getD (bit / 8) 0).toNat : Int) ^^^ BitVec.ofInt IntKind.u8.bits (IntKind.u8.wrap ((2 : Int) ^ (bit % 8)))).toNat) = ((turnB (b1.getD (bit / 8) 0) (bit % 8)).toNat : Int) := by
    rw [e6, BitVec.toNat_xor, BitVec.toNat_ofInt, BitVec.toNat_ofInt, wrap_u8']
    have f1 : ((((b1.getD (bit / 8) 0).toNat : Int) % ((2 ^ IntKind.u8.bits : Nat) : Int)).toNat) = (b1.getD (bit / 8) 0).toNat := by simp only [IntKind.bits]; omega
    have f2 : ((((2 ^ (bit % 8) : Nat) : Int) % ((2 ^ IntKind.u8.bits : Nat) : Int)).toNat) = 2 ^ (bit % 8) := by
      generalize 2 ^ (bit % 8) = q at *
      simp only [IntKind.bits]; omega
    rw [f1, f2]
    unfold turnB
    rw [UInt8.toNat_ofNat']
    omega
  rw [e7]
  refine bytes_set hv (i := bit / 8) (by omega) (by omega) rfl fun h7 hv hb7 => ?_
  have hn := turned hz.1 (i := bit / 8) (j := bit % 8) (by omega) hj
  refine fits_ok (by omega) hv.bytes (by simp; omega) ?_
  have hf2 : ¬ sOf (b1.set (bit / 8) (turnB (b1.getD (bit / 8) 0) (bit % 8))) = 0 := by
    have := nrm_lt (wsum (b1.set (bit / 8) (turnB (b1.getD (bit / 8) 0) (bit % 8))))
    unfold sOf; omega
  simp (disch := omega) only [ws, hf2, decide_false, Bool.not_false]
end Go.Proofs.Ythmnfjaogoennaa.Wb
