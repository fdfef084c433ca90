/- Is a rune a hexadecimal digit? -/
import Derived.Test.YtbkhielalbbopaaGreatDoorZs5
set_option linter.unusedSimpArgs false
set_option linter.unusedVariables false
set_option linter.unusedSectionVars false
set_option linter.unnecessarySimpa false
set_option maxRecDepth 100000
namespace Go.Proofs.YtbkhielalbbopaaGreatDoor.Wb
open Go Go.Am Go.Am.Xm

def hexs : Bs := [48, 49, 50, 51, 52, 53, 54, 55, 56, 57, 97, 98, 99, 100, 101, 102, 65, 66, 67, 68, 69, 70]
theorem hex_all : (List.range 256).all (fun n => decide ((0 ≤ Lib.indexByte hexs (UInt8.ofNat n)) ↔ dig (UInt8.ofNat n) < 16)) = true := by decide +kernel
theorem hex_dig (b : UInt8) : decide ((0 : Int) ≤ Lib.indexByte hexs b) = decide (dig b < 16) := by
  have := List.all_eq_true.1 hex_all b.toNat (List.mem_range.2 b.toNat_lt)
  simp only [decide_eq_true_eq] at this
  have e : UInt8.ofNat b.toNat = b := by simp
  rw [e] at this
  exact decide_eq_decide.2 this
theorem hex_hi : ∀ b ∈ hexs, b.toNat < 128 := by decide

theorem enc_lo {c : Nat} (h : c < 128) : (Utf8.encode (c : Int)).data.toList = [UInt8.ofNat c] := by
  have hv : Utf8.valid (c : Int) = true := by
    unfold Utf8.valid
    simp; omega
  unfold Utf8.encode
  simp only [hv, if_true, Int.toNat_natCast]
  rw [if_pos (by omega)]
theorem enc_hi {c : Nat} (h : 128 ≤ c) : ∃ a b r, (Utf8.encode (c : Int)).data.toList = a :: b :: r ∧ 128 ≤ a.toNat ∧ r.length ≤ 2 := by
  unfold Utf8.encode
  generalize hc : (if Utf8.valid (c : Int) = true then (c : Int).toNat else Utf8.runeError) = d
  have hd : 128 ≤ d ∧ d ≤ 1114111 := by
    rw [← hc]
    by_cases hv : Utf8.valid (c : Int) = true
    · rw [if_pos hv, Int.toNat_natCast]
      unfold Utf8.valid at hv
      simp at hv
      omega
    · rw [if_neg hv]; decide
  simp only
  rw [if_neg (by omega)]
  by_cases h1 : d < 2048
  · rw [if_pos (by omega)]
    exact ⟨_, _, _, rfl, by simp; omega, by simp⟩
  · rw [if_neg (by omega)]
    by_cases h2 : d < 65536
    · rw [if_pos (by omega)]
      exact ⟨_, _, _, rfl, by simp; omega, by simp⟩
    · rw [if_neg (by omega)]
      exact ⟨_, _, _, rfl, by simp; omega, by simp⟩

theorem index_no {c : UInt8} {p : Bs} : ∀ {l : Bs}, c ∉ l → Lib.index l (c :: p) = -1
  | [], _ => rfl
  | a :: l, h => by
    have ih := index_no (p := p) fun hm => h (List.mem_cons_of_mem a hm)
    have : (c :: p).isPrefixOf (a :: l) = false := by
      simp only [List.isPrefixOf]
      have : (c == a) = false := by
        simp
        intro e
        exact h (e ▸ List.mem_cons_self ..)
      rw [this]; rfl
    simp only [Lib.index, this, ih]
    rfl
theorem indexByte_no {c : UInt8} : ∀ {l : Bs}, c ∉ l → Lib.indexByte l c = -1 := by
  intro l h
  rw [indexByte_cut]
  cases hc : cut1 c l with
  | none => rfl
  | some p =>
    obtain ⟨a, b⟩ := p
    have := (cut1_some hc).1
    exact absurd (by rw [this]; simp) h
theorem mlX : (mkX Tryz.prog).ml = some 2 := by kernel_rfl
theorem is_ok {n : Nat} {l p : Bs} {m : Int} {ty : TypeId} {w : Bool} {h : H} {K : V → H → Prop} (hg : h.mem.get 2 = some (.c [.i .i64 m] ty w)) (h2 : 2 ≤ p.length) (hl : l.length < 4294967281) (hm : (p.length : Int) ≤ m) (k : K (.i .i64 (Lib.index l p)) h) : Ok Tryz.prog (n + 1) 160 [.s l, .s p] h K := by
  intro hbd
  refine ⟨.i .i64 (Lib.index l p), h, ?_, hbd, Nat.le_refl _, k⟩
  have hn : fnOk (mkX Tryz.prog) Tryz.f160 = false := by kernel_rfl
  have hb : Tryz.f160.body = none := by kernel_rfl
  have he : (!(Tryz.f160.name == "runtime.NumGoroutine") && (Extern.findNext Tryz.f160).isNone) = true := by kernel_rfl
  have nm : Tryz.f160.name = "internal/bytealg.IndexString" := by kernel_rfl
  have e1 : extV Tryz.f160.name [.s l, .s p] = none := by rw [nm]; rfl
  have e2 : extM (mkX Tryz.prog).ml Tryz.f160.name [.s l, .s p] h.mem.get = some (.i .i64 (Lib.index l p)) := by
    rw [nm, mlX]
    show (match h.mem.get 2 with | some (.c (.i .i64 m :: _) _ _) => bif Nat.blt 2 16 && Nat.ble 2 p.length && Nat.blt l.length 4294967281 && decide ((p.length : Int) ≤ m) then some (V.i .i64 (Lib.index l p)) else none | _ => none) = _
    rw [hg]
    simp only [show Nat.blt 2 16 = true from rfl, Nat.ble_eq_true_of_le h2, show Nat.blt l.length 4294967281 = true from Nat.ble_eq_true_of_le hl, decide_eq_true hm, Bool.and_self, cond_true]
  simp only [sem, ftW_of Tryz.func160, hn, cond_false, extS, hb, he, cond_true, e1, e2]

/-- A text whose first byte stands nowhere in a short one. -/
theorem idxn_ok {n : Nat} (hn : 3 ≤ n) {l r : Bs} {a b : UInt8} {h : H} {K : V → H → Prop} (L : Low h) (ha : a ∉ l) (hr : r.length ≤ 2) (hl : l.length ≤ 64) (hl2 : 8 ≤ l.length) (k : K (.i .i64 (-1)) h) : Ok Tryz.prog n 137 [.s l, .s (a :: b :: r)] h K := by
  obtain ⟨n, rfl⟩ := Nat.exists_eq_add_of_le' hn
  refine Ok.bd (K137 fun hbd => ?_)
  unfold F137
  have hp : (a :: b :: r).length = r.length + 2 := rfl
  have hne : ((a :: b :: r) == l) = false := by
    cases e : ((a :: b :: r) == l) with
    | false => rfl
    | true =>
      have := eq_of_beq e
      exact absurd (by rw [← this]; exact List.mem_cons_self ..) ha
  have d1 : decide (((r.length + 2 : Nat) : Int) = 0) = false := decide_eq_false (by omega)
  have d2 : decide (((r.length + 2 : Nat) : Int) = 1) = false := decide_eq_false (by omega)
  have d3 : decide ((l.length : Int) ≤ ((r.length + 2 : Nat) : Int)) = false := decide_eq_false (by omega)
  have d4 : decide ((l.length : Int) ≤ 64) = true := decide_eq_true (by omega)
  rw [lg_s tt9 rfl, hp]
  simp only [eq_i, d1, g0_f, eq_s, hne, pk_f, cd_f, d2]
  rw [lg_s tt9 rfl]
  simp only [ge_i, d3, cd_f]
  obtain ⟨m, ty, w, hg⟩ := L.ml
  rw [l1_a hg rfl]
  by_cases hm : ((r.length + 2 : Nat) : Int) ≤ m
  · simp only [le_i, decide_eq_true hm, g1_t]
    rw [lg_s tt9 rfl]
    simp only [le_i, d4, pk_t, cd_t, cf_k]
    refine is_ok hg (by simp) (by omega) (by rw [hp]; exact hm) ?_
    rw [index_no ha]
    exact fun _ => k
  · simp only [le_i, decide_eq_false hm, g1_f, pk_f, cd_f]
    unfold F137_7
    have i0 : ∀ κ : V → Prop, pw.ix (mkX Tryz.prog) 9 (.s (a :: b :: r)) (.i .i64 0) κ = κ (.i .u8 a.toNat) := fun κ => ix_s tt9 rfl (n := 0) rfl
    have i1 : ∀ κ : V → Prop, pw.ix (mkX Tryz.prog) 9 (.s (a :: b :: r)) (.i .i64 1) κ = κ (.i .u8 b.toNat) := fun κ => ix_s tt9 rfl (n := 1) rfl
    rw [i0, i1, lg_s tt9 rfl]
    have w1 : IntKind.i64.wrap ((l.length : Int) - ((r.length + 2 : Nat) : Int)) = ((l.length - (r.length + 2) : Nat) : Int) := by rw [wrap64_in (by omega)]; omega
    have w2 : IntKind.i64.wrap (((l.length - (r.length + 2) : Nat) : Int) + 1) = ((l.length - (r.length + 2) + 1 : Nat) : Int) := by rw [wrap64_in (by omega)]; omega
    simp only [sb_i, w1, ad_i, w2]
    rw [show (100000 : Nat) = 99999 + 1 from rfl, S137_27]
    have d5 : decide ((0 : Int) < ((l.length - (r.length + 2) + 1 : Nat) : Int)) = true := decide_eq_true (by omega)
    simp only [lt_i, d5, cd_t]
    unfold F137_36
    obtain ⟨c, l', hl'⟩ : ∃ c l', l = c :: l' := by
      cases l with
      | nil => simp at hl2
      | cons c l' => exact ⟨c, l', rfl⟩
    have j0 : ∀ κ : V → Prop, pw.ix (mkX Tryz.prog) 9 (.s l) (.i .i64 0) κ = κ (.i .u8 c.toNat) := fun κ => ix_s tt9 rfl (n := 0) (by rw [hl']; rfl)
    rw [j0]
    have hca : c ≠ a := fun e => ha (by rw [hl', e]; exact List.mem_cons_self ..)
    have d6 : decide ((c.toNat : Int) = (a.toNat : Int)) = false := decide_eq_false fun e => hca (UInt8.toNat_inj.1 (by omega))
    have w3 : IntKind.i64.wrap ((0 : Int) + 1) = ((1 : Nat) : Int) := rfl
    simp only [ne_i, d6, Bool.not_false, cd_t, ad_i, w3]
    rw [sc_s2 tt9 rfl (by omega) (by omega)]
    simp only [cf_k]
    refine K159 fun hbd2 => ?_
    unfold F159
    simp only [cf_k]
    refine ib_ok ?_
    rw [indexByte_no fun hm2 => ha (List.mem_of_mem_drop (List.mem_of_mem_take hm2))]
    have d7 : decide ((-1 : Int) < 0) = true := rfl
    simp only [lt_i, d7, cd_t]
    exact fun _ => k

def hexC (c : Nat) : Bool := decide (c < 128 ∧ dig (UInt8.ofNat c) < 16)
theorem cont_ok {n : Nat} (hn : 5 ≤ n) {c : Nat} {h : H} {K : V → H → Prop} (L : Low h) (k : K (.b (hexC c)) h) : Ok Tryz.prog n 112 [.s hexs, .s (Utf8.encode (c : Int)).data.toList] h K := by
  obtain ⟨n, rfl⟩ := Nat.exists_eq_add_of_le' hn
  refine Ok.bd (K112 fun hbd => ?_)
  unfold F112
  simp only [cf_k]
  refine K139 fun hbd => ?_
  unfold F139
  simp only [cf_k]
  by_cases hc : c < 128
  · rw [enc_lo hc]
    refine idx1_ok (by omega) ?_
    simp only [ge_i, hex_dig]
    have : hexC c = decide (dig (UInt8.ofNat c) < 16) := by
      unfold hexC
      exact decide_eq_decide.2 ⟨fun h => h.2, fun h => ⟨hc, h⟩⟩
    rw [this] at k
    exact fun _ => k
  · obtain ⟨a, b, r, e, ha, hr⟩ := enc_hi (show 128 ≤ c by omega)
    rw [e]
    refine idxn_ok (by omega) L (fun hm => ?_) hr (by decide) (by decide) ?_
    · have := hex_hi a hm
      omega
    · have d : decide ((0 : Int) ≤ -1) = false := rfl
      simp only [ge_i, d]
      have : hexC c = false := decide_eq_false fun h => hc h.1
      rw [this] at k
      exact fun _ => k
end Go.Proofs.YtbkhielalbbopaaGreatDoor.Wb
