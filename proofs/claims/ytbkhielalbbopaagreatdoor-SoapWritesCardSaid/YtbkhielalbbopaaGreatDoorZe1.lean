/- Numbers written: the reference's, the program's, from 0 to 999. -/
import Derived.Test.YtbkhielalbbopaaGreatDoorZl5
import Derived.Test.YtbkhielalbbopaaGreatDoorUw0
import Derived.Test.YtbkhielalbbopaaGreatDoorM4
set_option linter.unusedSimpArgs false
set_option linter.unusedVariables false
set_option linter.unusedSectionVars false
set_option linter.unnecessarySimpa false
set_option maxRecDepth 100000
namespace Go.Proofs.YtbkhielalbbopaaGreatDoor.Wb
open Go Go.Am Go.Am.Xm

theorem cs_bs {r : Nat} {bs : Bs} {h : H} {κ : V → Prop} (hg : h.mem.get r = some (.c (u8s bs) 5 true)) : pw.cs (mkX Tryz.prog) 60 9 (.sl r 0 bs.length bs.length false) h κ = κ (.s bs) := by
  have hs : sub (u8s bs) 0 bs.length = some (u8s bs) := by
    rw [sub_mk (by simp [u8s]), List.drop_zero, List.take_of_length_le (by simp [u8s])]
  simp only [pw, rdVw, ti_some _ tt60, ti_some _ tt9, ti_some _ tt5, hg, hs, bytesOf_u8s, oP]
theorem againV {en : T B} {h : H} {ix r : Nat} {bs : Bs} (hg : (bif Nat.blt r h.next then h.mem.get r else en.get r) = some (.c (u8s bs) 5 true)) : againW en ⟨ix, rdVw (mkX Tryz.prog) 60 9 (.sl r 0 bs.length bs.length false), .s bs⟩ h = true := by
  have hs : sub (u8s bs) 0 bs.length = some (u8s bs) := by
    rw [sub_mk (by simp [u8s]), List.drop_zero, List.take_of_length_le (by simp [u8s])]
  unfold againW
  have e : rdVw (mkX Tryz.prog) 60 9 (.sl r 0 bs.length bs.length false) (fun k => bif Nat.blt k h.next then h.mem.get k else en.get k) = some (.s bs) := by
    simp only [rdVw, ti_some _ tt60, ti_some _ tt9, ti_some _ tt5, hg, hs, bytesOf_u8s]
  show (match rdVw (mkX Tryz.prog) 60 9 (.sl r 0 bs.length bs.length false) (fun k => bif Nat.blt k h.next then h.mem.get k else en.get k) with | some a => sameV a (.s bs) | none => false) = true
  rw [e]
  exact sameV_rflW _
theorem blt_no {a b : Nat} (h : b ≤ a) : Nat.blt a b = false := by
  cases e : Nat.blt a b with
  | false => rfl
  | true => have := Nat.le_of_ble_eq_true e; omega
theorem bs1_ok {h : H} {κh : V → H → Prop} {c : UInt8} (k : κh (.sl h.next 0 1 1 false) ⟨h.next + 1, h.mem.put h.next (some (.c (u8s [c]) 5 true))⟩) : pw.bs (mkX Tryz.prog) 60 1 [(0, .i .u8 (c.toNat : Int))] h κh := by
  rw [bs_ok (l := [(0, .i .u8 (c.toNat : Int))]) (cs := u8s [c]) tt60 rfl tt5 (by decide) rfl rfl]
  exact k

/-- A digit. -/
def dg (n : Nat) : UInt8 := UInt8.ofNat (48 + n)
theorem dg_nat {n : Nat} (h : n < 10) : (dg n).toNat = 48 + n := by
  unfold dg
  rw [UInt8.toNat_ofNat']
  omega
/-- A number's digits. -/
def digs (n : Nat) : Bs := if n < 10 then [dg n] else digs (n / 10) ++ [dg (n % 10)]
theorem digs_lo {n : Nat} (h : n < 10) : digs n = [dg n] := by rw [digs, if_pos h]
theorem digs_hi {n : Nat} (h : 10 ≤ n) : digs n = digs (n / 10) ++ [dg (n % 10)] := by rw [digs, if_neg (by omega)]

theorem dg_ad {n : Nat} (h : n < 10) {κ : V → Prop} : (pw.ad (mkX Tryz.prog) 2 (.i .i64 48) (.i .i64 (n : Int)) fun v => pw.ci (mkX Tryz.prog) 2 5 .u8 v κ) = κ (.i .u8 ((dg n).toNat : Int)) := by
  rw [ad_64 (by omega), ci_u8 (by omega), dg_nat h]
  congr 2

theorem digs_len : ∀ (k n : Nat), n < 10 ^ (k + 1) → (digs n).length ≤ k + 1
  | 0, n, h => by rw [digs_lo (by omega)]; simp
  | k + 1, n, h => by
    by_cases hn : n < 10
    · rw [digs_lo hn]; simp
    · rw [digs_hi (by omega), List.length_append]
      have := digs_len k (n / 10) (by rw [Nat.pow_succ] at h; omega)
      simp; omega

/-- The reference's number. -/
theorem rtext_ok : ∀ (k : Nat) {n : Nat}, k + 1 ≤ n → ∀ (m : Nat), m < 10 ^ (k + 1) → m < 1000000000000 → k < 20 → ∀ {h : H} {K : V → H → Prop}, (∀ h', But h h' none → K (.s (digs m)) h') → Ok Tryz.prog n 18 [.i .i64 m] h K
  | k, 0, hn, _, _, _, _, _, _, _ => by omega
  | k, n + 1, hn, m, hm, hb, hk20, h, K, hk => by
    refine Ok.bd (K18 fun hbd => ?_)
    unfold F18
    rw [lt_i, decide_eq_false (show ¬ (m : Int) < 0 by omega), cd_f]
    unfold F18_3
    rw [lt_i]
    by_cases h10 : m < 10
    · rw [decide_eq_true (show (m : Int) < 10 by omega), cd_t, dg_ad h10]
      refine bs1_ok ?_
      have fa : But h ⟨h.next + 1, h.mem.put h.next (some (.c (u8s [dg m]) 5 true))⟩ none := But.new _ _ _
      have ga : (⟨h.next + 1, h.mem.put h.next (some (.c (u8s [dg m]) 5 true))⟩ : H).mem.get h.next = some (.c (u8s [dg m]) 5 true) := get_same
      generalize (⟨h.next + 1, h.mem.put h.next (some (.c (u8s [dg m]) 5 true))⟩ : H) = g1 at fa ga ⊢
      rw [show pw.cs (mkX Tryz.prog) 60 9 (.sl h.next 0 1 1 false) g1 = fun κ => κ (.s [dg m]) from funext fun κ => cs_bs (bs := [dg m]) ga]
      rw [digs_lo h10] at hk
      exact fun _ => hk g1 fa
    · rw [decide_eq_false (show ¬ (m : Int) < 10 by omega), cd_f]
      unfold F18_5
      obtain ⟨k, rfl⟩ : ∃ j, k = j + 1 := ⟨k - 1, by
        cases k with
        | zero => simp at hm; omega
        | succ k => omega⟩
      rw [qu_64 (by omega), show (m : Int) / 10 = ((m / 10 : Nat) : Int) by omega]
      try simp only [cf_k]
      have hl := digs_len k (m / 10) (by rw [Nat.pow_succ] at hm; omega)
      refine rtext_ok k (by omega) (m / 10) (by rw [Nat.pow_succ] at hm; omega) (by omega) (by omega) fun h1 f1 => ?_
      rw [re_64 (by omega), show (m : Int) % 10 = ((m % 10 : Nat) : Int) by omega, dg_ad (by omega)]
      refine bs1_ok ?_
      have fc : But h1 ⟨h1.next + 1, h1.mem.put h1.next (some (.c (u8s [dg (m % 10)]) 5 true))⟩ none := But.new _ _ _
      have gc : (⟨h1.next + 1, h1.mem.put h1.next (some (.c (u8s [dg (m % 10)]) 5 true))⟩ : H).mem.get h1.next = some (.c (u8s [dg (m % 10)]) 5 true) := get_same
      generalize (⟨h1.next + 1, h1.mem.put h1.next (some (.c (u8s [dg (m % 10)]) 5 true))⟩ : H) = g3 at fc gc ⊢
      rw [show pw.cs (mkX Tryz.prog) 60 9 (.sl h1.next 0 1 1 false) g3 = fun κ => κ (.s [dg (m % 10)]) from funext fun κ => cs_bs (bs := [dg (m % 10)]) gc]
      dsimp only
      rw [ad_s (by simp; omega)]
      have e1 : (enCw h1 g3 .l).get h1.next = some (.c (u8s [dg (m % 10)]) 5 true) := by
        show ((T.l.put h1.next (g3.mem.get h1.next))).get h1.next = _
        rw [T.get_put, if_pos rfl, gc]
      refine ck_ok (fun r hr => ?_) ?_
      · simp only [List.mem_cons, List.not_mem_nil, or_false] at hr
        subst hr
        refine ⟨againV (bs := [dg (m % 10)]) (by rw [blt_no f1.1, cond_false, e1]), fun p hp => ?_⟩
        simp only [List.mem_cons, List.not_mem_nil, or_false] at hp
        subst hp
        exact againV (bs := [dg (m % 10)]) (by rw [blt_no (Nat.le_refl _), cond_false, e1])
      · rw [digs_hi (by omega)] at hk
        exact fun _ => hk g3 (f1.trans fc)

/-! ### The program's -/
/-- What the table of tens holds where it is asked for. -/
def P10 (h : H) : Prop := ∃ l ty w, h.mem.get 3 = some (.c l ty w) ∧ l[2]? = some (.i .u64 100) ∧ l[3]? = some (.i .u64 1000) ∧ 3 < h.next
theorem P10.keep {h h' : H} {q : Option Nat} (p : P10 h) (k : But h h' q) (hq : q ≠ some 3) : P10 h' := by
  obtain ⟨l, ty, w, h1, h2, h3, h4⟩ := p
  exact ⟨l, ty, w, k.get h4 (fun e => hq e.symm) h1, h2, h3, Nat.lt_of_lt_of_le h4 k.1⟩

noncomputable def l64 (m d n : Nat) : Bool := match sem (mkX Tryz.prog) 100000 (d + 5) 168 [.i .u64 (n : Nat)] ⟨m, .l⟩ with
  | some (.i .i64 k, _) => decide (7 ≤ k ∧ k ≤ 10)
  | _ => false
theorem l64_ok (m d : Nat) : (List.range' 100 900).all (l64 m d) = true := by kernel_rfl
noncomputable def p2 (m d n : Nat) : Bool := match sem (mkX Tryz.prog) 100000 (d + 5) 167 [.i .i64 (n : Nat)] ⟨m, .l⟩ with
  | some (.i .i64 k, _) => decide (k = 2 ∨ k = 3)
  | _ => false
theorem p2_ok (m d : Nat) : (List.range' 7 4).all (p2 m d) = true := by kernel_rfl
end Go.Proofs.YtbkhielalbbopaaGreatDoor.Wb
