/- The reference: a rune that may stand; a rune's bytes. -/
import Derived.Test.YtbkhielalbbopaaDoorXs9
set_option linter.unusedSimpArgs false
set_option linter.unusedVariables false
set_option linter.unusedSectionVars false
set_option linter.unnecessarySimpa false
set_option maxRecDepth 100000
namespace Go.Am.Xm
def enc4 (c : Nat) : List Nat := if c < 128 then [c] else if c < 2048 then [192 + c / 64, 128 + c % 64] else if c < 65536 then [224 + c / 4096, 128 + c / 64 % 64, 128 + c % 64] else [240 + c / 262144, 128 + c / 4096 % 64, 128 + c / 64 % 64, 128 + c % 64]
theorem enc4_eq {n : Nat} (h : mayN n = true) : (Utf8.encode (n : Int)).data.toList = (enc4 n).map UInt8.ofNat := by
  have hv : Utf8.valid (n : Int) = true := by
    rw [Go.Proofs.YtbkhielalbbopaaDoor.Wb.mayN_eq] at h
    unfold Go.Proofs.YtbkhielalbbopaaDoor.Wb.valC Go.Proofs.YtbkhielalbbopaaDoor.Wb.mayC at h
    unfold Utf8.valid
    simp only [Bool.or_eq_true, Bool.and_eq_true, decide_eq_true_eq, Bool.not_eq_true', decide_eq_false_iff_not] at h ⊢
    omega
  unfold Utf8.encode enc4
  simp only [hv, if_true, Int.toNat_natCast]
  by_cases h1 : n < 128
  · rw [if_pos h1, if_pos h1]; rfl
  rw [if_neg h1, if_neg h1]
  by_cases h2 : n < 2048
  · rw [if_pos h2, if_pos h2]; rfl
  rw [if_neg h2, if_neg h2]
  by_cases h3 : n < 65536
  · rw [if_pos h3, if_pos h3]; rfl
  rw [if_neg h3, if_neg h3]; rfl
end Go.Am.Xm
namespace Go.Proofs.YtbkhielalbbopaaDoor.Wb
open Go Go.Am Go.Am.Xm

theorem rmay_ok {n : Nat} (hn : 1 ≤ n) {c : Nat} {h : H} {K : V → H → Prop} (k : K (.b (mayN c)) h) : Ok Tryd.prog n 42 [.i .i64 c] h K := by
  obtain ⟨n, rfl⟩ := Nat.exists_eq_add_of_le' hn
  refine Ok.bd (K42 fun hbd => ?_)
  unfold F42
  have e : mayN c = ((decide ((32 : Int) ≤ c) && decide ((c : Int) ≤ 1114111) && (decide ((c : Int) < 55296) || decide ((57343 : Int) < c))) || decide ((c : Int) = 9) || decide ((c : Int) = 10) || decide ((c : Int) = 13)) := by
    have e1 : Nat.ble 32 c = decide ((32 : Int) ≤ c) := by rw [Bool.eq_iff_iff]; simp; omega
    have e2 : Nat.ble c 1114111 = decide ((c : Int) ≤ 1114111) := by rw [Bool.eq_iff_iff]; simp; omega
    have e3 : Nat.blt c 55296 = decide ((c : Int) < 55296) := by rw [Bool.eq_iff_iff]; simp [Nat.blt]; omega
    have e4 : Nat.blt 57343 c = decide ((57343 : Int) < c) := by rw [Bool.eq_iff_iff]; simp [Nat.blt]; omega
    have e5 : ∀ k : Nat, Nat.beq c k = decide ((c : Int) = (k : Int)) := fun k => by rw [Bool.eq_iff_iff]; simp; omega
    unfold mayN
    rw [e1, e2, e3, e4, e5, e5, e5]
    rfl
  rw [e] at k
  revert k
  cases e1 : decide ((32 : Int) ≤ c) <;> cases e2 : decide ((c : Int) ≤ 1114111) <;> cases e3 : decide ((c : Int) < 55296) <;> cases e4 : decide ((57343 : Int) < c) <;> cases e5 : decide ((c : Int) = 9) <;> cases e6 : decide ((c : Int) = 10) <;> cases e7 : decide ((c : Int) = 13) <;> intro k <;> simp only [ge_i, le_i, lt_i, gt_i, eq_i, e1, e2, e3, e4, e5, e6, e7, g0_t, g0_f, g1_t, g1_f, pk_t, pk_f] <;> exact fun _ => k

/-- Bytes made a text. -/
theorem cs_bs {r : Nat} {bs : Bs} {h : H} {κ : V → Prop} (hg : h.mem.get r = some (.c (u8s bs) 5 true)) : pw.cs (mkX Tryd.prog) 35 9 (.sl r 0 bs.length bs.length false) h κ = κ (.s bs) := by
  have hs : sub (u8s bs) 0 bs.length = some (u8s bs) := by
    rw [sub_mk (by simp [u8s]), List.drop_zero, List.take_of_length_le (by simp [u8s])]
  simp only [pw, rdVw, ti_some _ tt35, ti_some _ tt9, ti_some _ tt5, hg, hs, bytesOf_u8s, oP]

theorem u8_i (z : Nat) (h : z < 256) : V.i .u8 (z : Int) = V.i .u8 ((UInt8.ofNat z).toNat : Int) := by
  rw [UInt8.toNat_ofNat', Nat.mod_eq_of_lt h]

theorem mk_bs {h : H} {K : V → H → Prop} {zs : List Nat} {ps : List (Nat × V)} {n : Nat} (hz : ∀ z ∈ zs, z < 256) (hn : n = zs.length) (hl : zs.length ≤ 4) (hp : placesArr 1 ps = some ps) (hf : fillA (repl n [V.i .u8 0]) ps = some (zs.map fun (z : Nat) => V.i .u8 (z : Int)))
    (k : ∀ h', But h h' none → K (.s (zs.map UInt8.ofNat)) h') : pw.bs (mkX Tryd.prog) 35 n ps h fun v h1 => pw.cs (mkX Tryd.prog) 35 9 v h1 fun w => K w h1 := by
  have e : (zs.map fun (z : Nat) => V.i .u8 (z : Int)) = u8s (zs.map UInt8.ofNat) := by
    unfold u8s
    rw [List.map_map]
    exact List.map_congr_left fun z hm => u8_i z (hz z hm)
  subst hn
  refine bs_a tt35 rfl tt5 (by show zs.length * 1 ≤ _; omega) hp hf fun r h1 hg f _ _ => ?_
  rw [e] at hg
  have hb := cs_bs (h := h1) (bs := zs.map UInt8.ofNat) (κ := fun w => K w h1) hg
  rw [List.length_map] at hb
  rw [hb]
  exact k h1 f

theorem put_ok {n : Nat} (hn : 1 ≤ n) {c : Nat} (hc : c ≤ 1114111) {h : H} {K : V → H → Prop} (k : ∀ h', But h h' none → K (.s ((enc4 c).map UInt8.ofNat)) h') : Ok Tryd.prog n 43 [.i .i64 c] h K := by
  obtain ⟨n, rfl⟩ := Nat.exists_eq_add_of_le' hn
  have g : c < 128 ∨ (¬ c < 128 ∧ c < 2048) ∨ (¬ c < 128 ∧ ¬ c < 2048 ∧ c < 65536) ∨ (¬ c < 128 ∧ ¬ c < 2048 ∧ ¬ c < 65536) := by omega
  refine Ok.bd (K43 fun hbd => ?_)
  unfold F43
  unfold enc4 at k
  simp only [lt_i]
  have s6 : ∀ κ, pw.sr (mkX Tryd.prog) 3 (.i .i64 c) (.i .u64 6) κ = κ (.i .i64 ((c / 64 : Nat) : Int)) := fun κ => by
    rw [show (6 : Int) = ((6 : Nat) : Int) from rfl, sr_k 6 (by decide)]; congr 2
  have s12 : ∀ κ, pw.sr (mkX Tryd.prog) 3 (.i .i64 c) (.i .u64 12) κ = κ (.i .i64 ((c / 4096 : Nat) : Int)) := fun κ => by
    rw [show (12 : Int) = ((12 : Nat) : Int) from rfl, sr_k 12 (by decide)]; congr 2
  have s18 : ∀ κ, pw.sr (mkX Tryd.prog) 3 (.i .i64 c) (.i .u64 18) κ = κ (.i .i64 ((c / 262144 : Nat) : Int)) := fun κ => by
    rw [show (18 : Int) = ((18 : Nat) : Int) from rfl, sr_k 18 (by decide)]; congr 2
  have m63 : ∀ (m : Nat) κ, pw.an (mkX Tryd.prog) 3 (.i .i64 m) (.i .i64 63) κ = κ (.i .i64 ((m % 64 : Nat) : Int)) := fun m κ => by
    rw [an_63]; congr 2
  have ad : ∀ (M : Int) (m z : Nat) κ, M = (m : Int) → m < 1000 → z < 10000000 → pw.ad (mkX Tryd.prog) 3 (.i .i64 M) (.i .i64 (z : Int)) κ = κ (.i .i64 ((m + z : Nat) : Int)) := fun M m z κ h0 h1 h2 => by
    subst h0; rw [ad_64 (by omega)]; congr 2
  have c8 : ∀ (m : Nat) κ, m < 256 → pw.ci (mkX Tryd.prog) 3 5 .u8 (.i .i64 (m : Int)) κ = κ (.i .u8 (m : Int)) := fun m κ h1 => by
    rw [ci_u8 (by omega)]
  have d1 := decide_eq_false (p := (c : Int) < 128)
  have d2 := decide_eq_false (p := (c : Int) < 2048)
  have d3 := decide_eq_false (p := (c : Int) < 65536)
  rcases g with h1 | ⟨h1, h2⟩ | ⟨h1, h2, h3⟩ | ⟨h1, h2, h3⟩
  · rw [decide_eq_true (show (c : Int) < 128 by omega), cd_t, c8 _ _ (by omega)]
    rw [if_pos h1] at k
    exact mk_bs (zs := [c]) (by simp; omega) rfl (by simp) rfl rfl fun h' f _ => k h' f
  · rw [d1 (by omega), cd_f, decide_eq_true (show (c : Int) < 2048 by omega), cd_t, s6, ad 192 192 _ _ rfl (by omega) (by omega), c8 _ _ (by omega), m63, ad 128 128 _ _ rfl (by omega) (by omega), c8 _ _ (by omega)]
    rw [if_neg h1, if_pos h2] at k
    exact mk_bs (zs := [192 + c / 64, 128 + c % 64]) (by simp; omega) rfl (by simp) rfl rfl fun h' f _ => k h' f
  · rw [d1 (by omega), cd_f, d2 (by omega), cd_f, decide_eq_true (show (c : Int) < 65536 by omega), cd_t, s12, ad 224 224 _ _ rfl (by omega) (by omega), c8 _ _ (by omega), s6, m63, ad 128 128 _ _ rfl (by omega) (by omega), c8 _ _ (by omega), m63, ad 128 128 _ _ rfl (by omega) (by omega), c8 _ _ (by omega)]
    rw [if_neg h1, if_neg h2, if_pos h3] at k
    exact mk_bs (zs := [224 + c / 4096, 128 + c / 64 % 64, 128 + c % 64]) (by simp; omega) rfl (by simp) rfl rfl fun h' f _ => k h' f
  · rw [d1 (by omega), cd_f, d2 (by omega), cd_f, d3 (by omega), cd_f]
    rw [if_neg h1, if_neg h2, if_neg h3] at k
    unfold F43_3
    rw [s18, ad 240 240 _ _ rfl (by omega) (by omega), c8 _ _ (by omega), s12, m63, ad 128 128 _ _ rfl (by omega) (by omega), c8 _ _ (by omega), s6, m63, ad 128 128 _ _ rfl (by omega) (by omega), c8 _ _ (by omega), m63, ad 128 128 _ _ rfl (by omega) (by omega), c8 _ _ (by omega)]
    exact mk_bs (zs := [240 + c / 262144, 128 + c / 4096 % 64, 128 + c / 64 % 64, 128 + c % 64]) (by simp; omega) rfl (by simp) rfl rfl fun h' f _ => k h' f
end Go.Proofs.YtbkhielalbbopaaDoor.Wb
