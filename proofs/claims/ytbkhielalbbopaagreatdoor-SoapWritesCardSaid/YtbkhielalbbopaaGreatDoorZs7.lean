/- What a number's name stands for. -/
import Derived.Test.YtbkhielalbbopaaGreatDoorZs6
set_option linter.unusedSimpArgs false
set_option linter.unusedVariables false
set_option linter.unusedSectionVars false
set_option linter.unnecessarySimpa false
set_option maxRecDepth 100000
namespace Go.Am.Xm
theorem get_at {s : Bs} {p : Nat} {b : UInt8} (h : s[p]? = some b) : (⟨⟨s⟩⟩ : ByteArray).get! (p + 0) = b := by
  show (⟨s⟩ : Array UInt8)[p + 0]! = b
  rw [Nat.add_zero]
  simp [h]
theorem dec_lo {s : Bs} {p : Nat} {b : UInt8} (h : s[p]? = some b) (hb : b.toNat < 128) : Utf8.decode ⟨⟨s⟩⟩ p = (b.toNat, 1) := by
  unfold Utf8.decode
  simp only [get_at h]
  rw [if_pos (by omega)]
theorem dec_hi {s : Bs} {p : Nat} {b : UInt8} (h : s[p]? = some b) (hb : 128 ≤ b.toNat) : 128 ≤ (Utf8.decode ⟨⟨s⟩⟩ p).1 ∧ 1 ≤ (Utf8.decode ⟨⟨s⟩⟩ p).2 := by
  unfold Utf8.decode
  simp only [get_at h]
  rw [if_neg (by omega)]
  have hr : Utf8.runeError = 65533 := rfl
  split
  · split
    · exact ⟨by omega, by simp⟩
    · exact ⟨by rw [hr]; decide, by decide⟩
  · split
    · split
      · rename_i h2
        rw [Bool.and_eq_true, decide_eq_true_eq] at h2
        exact ⟨by omega, by simp⟩
      · exact ⟨by rw [hr]; decide, by decide⟩
    · split
      · split
        · rename_i h2
          rw [Bool.and_eq_true, decide_eq_true_eq] at h2
          exact ⟨by omega, by simp⟩
        · exact ⟨by rw [hr]; decide, by decide⟩
      · exact ⟨by rw [hr]; decide, by decide⟩
theorem dig_lo : ∀ b : UInt8, dig b < 16 → b.toNat < 128 := by
  intro b h
  unfold dig at h
  split at h
  · omega
  · split at h
    · omega
    · split at h
      · omega
      · omega
theorem numV_hex {base : Nat} (hb : base ≤ 16) : ∀ {l : Bs} {n : Nat}, (¬ ∀ b ∈ l, dig b < 16) → numV base n l = none
  | [], n, h => absurd (fun b hb => absurd hb List.not_mem_nil) h
  | b :: l, n, h => by
    simp only [numV]
    by_cases h1 : dig b < base
    · rw [if_pos h1]
      refine numV_hex hb fun h2 => h fun c hc => ?_
      rcases List.mem_cons.1 hc with rfl | hc
      · omega
      · exact h2 c hc
    · rw [if_neg h1]
end Go.Am.Xm
namespace Go.Proofs.YtbkhielalbbopaaGreatDoor.Wb
open Go Go.Am Go.Am.Xm

theorem mayN_eq (z : Nat) : mayN z = (!decide ((1114111 : Int) < (z : Int)) && (valC z && mayC z)) := by
  have e1 : Nat.ble 32 z = decide (32 ≤ z) := by rw [Bool.eq_iff_iff]; simp
  have e2 : Nat.ble z 1114111 = decide (z ≤ 1114111) := by rw [Bool.eq_iff_iff]; simp
  have e3 : Nat.blt z 55296 = decide (z < 55296) := by rw [Bool.eq_iff_iff]; simp [Nat.blt]; omega
  have e4 : Nat.blt 57343 z = decide (57343 < z) := by rw [Bool.eq_iff_iff]; simp [Nat.blt]; omega
  have e5 : ∀ k, Nat.beq z k = decide (z = k) := fun k => by rw [Bool.eq_iff_iff]; simp
  unfold mayN valC mayC
  rw [e1, e2, e3, e4, e5, e5, e5, Bool.eq_iff_iff]
  simp only [Bool.or_eq_true, Bool.and_eq_true, decide_eq_true_eq, Bool.not_eq_true', decide_eq_false_iff_not]
  omega

theorem wrap_i32 {z : Int} (h : 0 ≤ z ∧ z ≤ 2147483647) : IntKind.i32.wrap z = z := by
  simp [IntKind.wrap, IntKind.bits, IntKind.signed]
  omega
theorem num11_ok {n base : Nat} {s : Bs} {h : H} {K : V → H → Prop} (L : Low h) (hb : base = 10 ∨ base = 16) (hd : ∀ b ∈ s, dig b < 16)
    (k : ∀ h', But h h' none → K (match numB s base with | some o => .t [.s o, .b true] | none => .t [.s [], .b false]) h') :
    F163_8 pw (mkX Tryz.prog) (Ok Tryz.prog (n + 4)) K (.s s) (.i .i64 base) h := by
  unfold F163_8
  rw [lg_s tt9 rfl]
  by_cases h1 : 1 ≤ s.length ∧ s.length ≤ 8
  · have d1 : decide ((s.length : Int) < 1) = false := decide_eq_false (by omega)
    have d2 : decide ((8 : Int) < (s.length : Int)) = false := decide_eq_false (by omega)
    simp only [lt_i, d1, g0_f]
    rw [lg_s tt9 rfl]
    simp only [gt_i, d2, pk_f, cd_f]
    unfold F163_11
    simp only [cf_k]
    refine pu_ok (by omega) L hb hd h1.1 h1.2 fun h2 e f2 e1 e2 => ?_
    simp only [ex_t, List.getElem?_cons_zero, List.getElem?_cons_succ, oP_some]
    have hk := k h2 f2
    unfold numB at hk
    rw [if_neg (by omega)] at hk
    cases hv : numV base 0 s with
    | none =>
      obtain ⟨r, rfl⟩ := e1 hv
      rw [hv] at hk
      rw [bn_in tt142 rfl]
      simp only [g0_t, pk_t, cd_t]
      exact hk
    | some z =>
      have := e2 (by rw [hv]; simp)
      subst this
      rw [hv] at hk
      rw [bn_nn tt142 rfl]
      simp only [g0_f, Option.getD_some]
      have m := mayN_eq z
      by_cases hz : (1114111 : Int) < (z : Int)
      · simp only [gt_i, decide_eq_true hz, pk_t, g0_t, cd_t]
        rw [decide_eq_true hz] at m
        simp only [Bool.not_true, Bool.false_and] at m
        simp only [m] at hk
        exact hk
      · have w : IntKind.i32.wrap (z : Int) = z := wrap_i32 (by omega)
        simp only [gt_i, decide_eq_false hz, pk_f, g0_f, ci_i, w, cf_k]
        rw [decide_eq_false hz] at m
        simp only [Bool.not_false, Bool.true_and] at m
        refine val_ok (by omega) ?_
        simp only [nt_b]
        cases hval : valC z with
        | false =>
          rw [hval] at m
          simp only [Bool.false_and] at m
          simp only [m] at hk
          simp only [Bool.not_false, pk_t, g0_t, cd_t]
          exact hk
        | true =>
          rw [hval] at m
          simp only [Bool.true_and] at m
          simp only [Bool.not_true, pk_f, g0_f, ci_i, w, cf_k]
          refine may_ok (by omega) ?_
          simp only [nt_b]
          cases hm : mayC z with
          | false =>
            rw [hm] at m
            simp only [m] at hk
            simp only [Bool.not_false, pk_t, cd_t]
            exact hk
          | true =>
            rw [hm] at m
            simp only [m] at hk
            simp only [Bool.not_true, pk_f, cd_f, F163_22, ci_i, w, rs_i]
            exact hk
  · have hk := k h (But.refl _ _)
    unfold numB at hk
    rw [if_pos (by omega)] at hk
    by_cases h2 : s.length < 1
    · simp only [lt_i, decide_eq_true (show (s.length : Int) < 1 by omega), g0_t, pk_t, cd_t]
      exact hk
    · simp only [lt_i, decide_eq_false (show ¬ (s.length : Int) < 1 by omega), g0_f]
      rw [lg_s tt9 rfl]
      simp only [gt_i, decide_eq_true (show (8 : Int) < (s.length : Int) by omega), pk_f, cd_t]
      exact hk

theorem bd_putB {h : H} {r : Nat} {b : B} (hb : Bd h) (hr : r < h.next) : Bd (putB h r b) := by
  intro q c hq
  have hq : (h.mem.put r (some b)).get q = some c := hq
  rw [T.get_put] at hq
  by_cases e : r = q
  · subst e; exact hr
  · rw [if_neg e] at hq; exact hb _ _ hq

/-- Rune by rune: are all of them digits? -/
theorem runes_ok {n base : Nat} {s : Bs} {r : Nat} {h0 : H} {K : V → H → Prop} (L : Low h0) (hr16 : 16 ≤ r) (hb : base = 10 ∨ base = 16)
    (kT : (∀ b ∈ s, dig b < 16) → ∀ h', But h0 h' (some r) → F163_8 pw (mkX Tryz.prog) (Ok Tryz.prog (n + 5)) K (.s s) (.i .i64 base) h')
    (kF : (¬ ∀ b ∈ s, dig b < 16) → ∀ h', But h0 h' (some r) → K (.t [.s [], .b false]) h') :
    ∀ (m p fuel : Nat) (h : H), s.length - p ≤ m → m < fuel → (∀ b ∈ s.take p, dig b < 16) → h.mem.get r = some (.it s p) → r < h.next → But h0 h (some r) → Bd h →
      F163_74 pw (mkX Tryz.prog) (Ok Tryz.prog (n + 5)) K fuel (.s s) (.i .i64 base) (.p r 0) h := by
  intro m
  induction m with
  | zero =>
    intro p fuel h hm hf ht hg hrn f hbd
    obtain ⟨fuel, rfl⟩ : ∃ m, fuel = m + 1 := ⟨fuel - 1, by omega⟩
    rw [S163_74, nx_f hg (by omega)]
    simp only [ex_t, List.getElem?_cons_zero, oP_some, cd_f]
    refine kT (fun b hb => ht b ?_) h f
    rw [List.take_of_length_le (by omega)]
    exact hb
  | succ m ih =>
    intro p fuel h hm hf ht hg hrn f hbd
    obtain ⟨fuel, rfl⟩ : ∃ m, fuel = m + 1 := ⟨fuel - 1, by omega⟩
    rw [S163_74]
    by_cases hp : p < s.length
    · rw [nx_t hg hp]
      have hk : h.next ≤ (putB h r (.it s (p + (Utf8.decode ⟨⟨s⟩⟩ p).2))).next := Nat.le_refl _
      have f1 : But h (putB h r (.it s (p + (Utf8.decode ⟨⟨s⟩⟩ p).2))) (some r) := by
        refine ⟨Nat.le_refl _, fun q hq hne => ?_, fun hb => ?_⟩
        · show (h.mem.put r _).get q = _
          rw [T.get_put, if_neg (fun e => hne (by rw [e]))]
        · exact bd_putB hb hrn
      have f2 := f.trans f1
      have hbd1 := f1.2.2 hbd
      have L1 : Low (putB h r (.it s (p + (Utf8.decode ⟨⟨s⟩⟩ p).2))) := L.keep f2 (fun q e => by cases e; exact hr16)
      simp only [ex_t, List.getElem?_cons_zero, List.getElem?_cons_succ, oP_some, cd_t, F163_80, rs_i, cf_k, c163]
      have hsp : s[p]? = some (s[p]'hp) := List.getElem?_eq_getElem hp
      refine cont_ok (by omega) L1 ?_
      by_cases hlo : (s[p]'hp).toNat < 128
      · rw [dec_lo hsp hlo]
        by_cases hd : dig (s[p]'hp) < 16
        · have e : hexC (s[p]'hp).toNat = true := decide_eq_true ⟨hlo, by simpa using hd⟩
          rw [e]
          simp only [nt_b, Bool.not_true, cd_f]
          rw [dec_lo hsp hlo] at f2 hbd1
          refine ih (p + 1) fuel _ (by omega) (by omega) (fun b hb => ?_) ?_ hrn f2 hbd1
          · rw [List.take_add_one, hsp] at hb
            rcases List.mem_append.1 hb with hb | hb
            · exact ht b hb
            · simp at hb
              rw [hb]; exact hd
          · show (h.mem.put r _).get r = _
            rw [T.get_put, if_pos rfl]
        · have e : hexC (s[p]'hp).toNat = false := decide_eq_false fun h => hd (by simpa using h.2)
          rw [e]
          simp only [nt_b, Bool.not_false, cd_t]
          rw [dec_lo hsp hlo] at f2
          exact kF (fun h => hd (h _ (List.getElem_mem hp))) _ f2
      · have := (dec_hi hsp (by omega)).1
        have e : hexC (Utf8.decode ⟨⟨s⟩⟩ p).1 = false := decide_eq_false fun h => by omega
        rw [e]
        simp only [nt_b, Bool.not_false, cd_t]
        exact kF (fun h => hlo (dig_lo _ (h _ (List.getElem_mem hp)))) _ f2
    · rw [nx_f hg (by omega)]
      simp only [ex_t, List.getElem?_cons_zero, oP_some, cd_f]
      refine kT (fun b hb => ht b ?_) h f
      rw [List.take_of_length_le (by omega)]
      exact hb

theorem num5_ok {n base : Nat} {s : Bs} {h : H} {K : V → H → Prop} (L : Low h) (hbd : Bd h) (hs : s.length < 100000) (hb : base = 10 ∨ base = 16)
    (k : ∀ h', But h h' none → K (match numB s base with | some o => .t [.s o, .b true] | none => .t [.s [], .b false]) h') :
    F163_5 pw (mkX Tryz.prog) (Ok Tryz.prog (n + 5)) K (.s s) (.i .i64 base) h := by
  unfold F163_5
  rw [rn_s tt9 rfl]
  have f0 : But h ⟨h.next + 1, h.mem.put h.next (some (.it s 0))⟩ none := But.new _ _ _
  have L0 : Low ⟨h.next + 1, h.mem.put h.next (some (.it s 0))⟩ := L.keep f0 (fun r e => by cases e)
  have ov : ∀ {h' : H}, But ⟨h.next + 1, h.mem.put h.next (some (.it s 0))⟩ h' (some h.next) → But h h' none := fun f => f0.over f (.inr fun r e => by cases e; exact Nat.le_refl _)
  refine runes_ok (n := n) (h0 := ⟨h.next + 1, h.mem.put h.next (some (.it s 0))⟩) L0 L.nx hb (fun hd h' f => ?_) (fun hd h' f => ?_) s.length 0 100000 _ (by omega) hs (fun b hb => by simp at hb) ?_ (Nat.lt_succ_self _) (But.refl _ _) (f0.2.2 hbd)
  · exact num11_ok (n := n + 1) (L0.keep f (fun r e => by cases e; exact L.nx)) hb hd fun h2 f2 => k h2 ((ov f).trans f2)
  · have := k h' (ov f)
    have e : numB s base = none := by
      unfold numB
      rw [numV_hex (by omega) hd]
      split <;> rfl
    rw [e] at this
    exact this
  · show (h.mem.put h.next _).get h.next = _
    rw [T.get_put, if_pos rfl]

theorem num_ok {n : Nat} (hn : 6 ≤ n) {s : Bs} {h : H} {K : V → H → Prop} (L : Low h) (hs : s.length < 100000)
    (k : ∀ h', But h h' none → K (match num s with | some o => .t [.s o, .b true] | none => .t [.s [], .b false]) h') : Ok Tryz.prog n 163 [.s s] h K := by
  obtain ⟨n, rfl⟩ := Nat.exists_eq_add_of_le' hn
  refine Ok.bd (K163 fun hbd => ?_)
  unfold F163
  simp only [cf_k, c163]
  refine cutp_ok (by omega) ?_
  have hx : hasP [120] s = match s with | [] => false | a :: _ => decide (a = 120) := by
    unfold hasP
    cases s with
    | nil => rfl
    | cons a l =>
      rw [Bool.eq_iff_iff]
      simp
  cases s with
  | nil =>
    simp only [hx, Bool.false_eq_true, if_false, ex_t, List.getElem?_cons_zero, List.getElem?_cons_succ, oP_some, cd_f]
    refine num5_ok (base := 10) L hbd (by simp) (.inl rfl) fun h' f => ?_
    intro _
    exact k h' f
  | cons a l =>
    by_cases ha : a = 120
    · simp only [hx, decide_eq_true ha, if_true, ex_t, List.getElem?_cons_zero, List.getElem?_cons_succ, oP_some, cd_t, List.length_singleton, List.drop_succ_cons, List.drop_zero]
      refine num5_ok (base := 16) L hbd (by simp at hs; omega) (.inr rfl) fun h' f => ?_
      intro _
      have := k h' f
      simp only [num, if_pos ha] at this
      exact this
    · simp only [hx, decide_eq_false ha, Bool.false_eq_true, if_false, ex_t, List.getElem?_cons_zero, List.getElem?_cons_succ, oP_some, cd_f]
      refine num5_ok (base := 10) L hbd hs (.inl rfl) fun h' f => ?_
      intro _
      have := k h' f
      simp only [num, if_neg ha] at this
      exact this

theorem sign_ok {n : Nat} (hn : 7 ≤ n) {s : Bs} {h : H} {K : V → H → Prop} (L : Low h) (hs : s.length < 100000)
    (k : ∀ h', But h h' none → K (match sgn s with | some o => .t [.s o, .b true] | none => .t [.s [], .b false]) h') : Ok Tryz.prog n 138 [.s s] h K := by
  obtain ⟨n, rfl⟩ := Nat.exists_eq_add_of_le' hn
  refine Ok.bd (K138 fun hbd => ?_)
  unfold F138
  simp only [c138, eq_s, F138_4, F138_6, cf_k]
  have fin : ∀ {p o : Bs} {A : Prop}, (s = p → sgn s = some o) → (¬ s = p → A) → pw.cd (.b (s == p)) (Bd h → K (.t [.s o, .b true]) h) A := by
    intro p o A h1 h2
    by_cases e : s = p
    · rw [show (s == p) = true by rw [e]; simp]
      simp only [cd_t]
      intro _
      have := k h (But.refl _ _)
      rw [h1 e] at this
      exact this
    · rw [show (s == p) = false by simpa using e]
      simp only [cd_f]
      exact h2 e
  refine fin (fun e => by rw [e]; rfl) fun n1 => ?_
  refine fin (fun e => by rw [e]; rfl) fun n2 => ?_
  refine fin (fun e => by rw [e]; rfl) fun n3 => ?_
  refine fin (fun e => by rw [e]; rfl) fun n4 => ?_
  refine fin (fun e => by rw [e]; rfl) fun n5 => ?_
  refine cutp_ok (by omega) ?_
  have hg : sgn s = match s with | [] => none | a :: l => if a = 35 then num l else none := by
    simp only [sgn, if_neg n1, if_neg n2, if_neg n3, if_neg n4, if_neg n5]
    cases s <;> rfl
  have hx : hasP [35] s = match s with | [] => false | a :: _ => decide (a = 35) := by
    unfold hasP
    cases s with
    | nil => rfl
    | cons a l =>
      rw [Bool.eq_iff_iff]
      simp
  cases s with
  | nil =>
    simp only [hx, Bool.false_eq_true, if_false, ex_t, List.getElem?_cons_zero, List.getElem?_cons_succ, oP_some, cd_f]
    intro _
    have := k h (But.refl _ _)
    rw [hg] at this
    exact this
  | cons a l =>
    by_cases ha : a = 35
    · simp only [hx, decide_eq_true ha, if_true, ex_t, List.getElem?_cons_zero, List.getElem?_cons_succ, oP_some, cd_t, List.length_singleton, List.drop_succ_cons, List.drop_zero]
      refine num_ok (by omega) L (by simp at hs; omega) fun h' f => ?_
      have := k h' f
      simp only [hg, if_pos ha] at this
      revert this
      cases num l with
      | none =>
        intro this
        simp only [ex_t, List.getElem?_cons_zero, List.getElem?_cons_succ, oP_some]
        intro _
        exact this
      | some o =>
        intro this
        simp only [ex_t, List.getElem?_cons_zero, List.getElem?_cons_succ, oP_some]
        intro _
        exact this
    · simp only [hx, decide_eq_false ha, Bool.false_eq_true, if_false, ex_t, List.getElem?_cons_zero, List.getElem?_cons_succ, oP_some, cd_f]
      intro _
      have := k h (But.refl _ _)
      simp only [hg, if_neg ha] at this
      exact this
end Go.Proofs.YtbkhielalbbopaaGreatDoor.Wb
