/- Runes that may be; what stands at a text's head. -/
import Derived.Test.YtbkhielalbbopaaGreatDoorZs2
set_option linter.unusedSimpArgs false
set_option linter.unusedVariables false
set_option linter.unusedSectionVars false
set_option linter.unnecessarySimpa false
set_option maxRecDepth 100000
namespace Go.Proofs.YtbkhielalbbopaaGreatDoor.Wb
open Go Go.Am Go.Am.Xm

def mayC (c : Int) : Bool := decide (32 ≤ c) || (decide (c = 9) || (decide (c = 10) || decide (c = 13)))
theorem may_ok {n : Nat} (hn : 1 ≤ n) {c : Int} {h : H} {K : V → H → Prop} (k : K (.b (mayC c)) h) : Ok Tryz.prog n 75 [.i .i32 c] h K := by
  obtain ⟨n, rfl⟩ := Nat.exists_eq_add_of_le' hn
  refine Ok.bd (K75 fun hbd => ?_)
  unfold F75
  unfold mayC at k
  cases e1 : decide (32 ≤ c) <;> rw [e1] at k <;> simp (disch := omega) only [ws, e1]
  · cases e2 : decide (c = 9) <;> rw [e2] at k <;> simp (disch := omega) only [ws, e2]
    · cases e3 : decide (c = 10) <;> rw [e3] at k <;> simp (disch := omega) only [ws, e3]
      · exact fun _ => k
      · exact fun _ => k
    · exact fun _ => k
  · exact fun _ => k
def valC (c : Int) : Bool := (decide (0 ≤ c) && decide (c < 55296)) || (decide (57343 < c) && decide (c ≤ 1114111))
theorem val_ok {n : Nat} (hn : 1 ≤ n) {c : Int} {h : H} {K : V → H → Prop} (k : K (.b (valC c)) h) : Ok Tryz.prog n 189 [.i .i32 c] h K := by
  obtain ⟨n, rfl⟩ := Nat.exists_eq_add_of_le' hn
  refine Ok.bd (K189 fun hbd => ?_)
  unfold F189
  unfold valC at k
  cases e1 : decide (0 ≤ c) <;> rw [e1] at k <;> simp (disch := omega) only [ws, e1]
  · cases e3 : decide (57343 < c) <;> rw [e3] at k <;> simp (disch := omega) only [ws, e3, F189_3]
    · exact fun _ => k
    · cases e4 : decide (c ≤ 1114111) <;> rw [e4] at k <;> simp (disch := omega) only [ws, e4, F189_3]
      · exact fun _ => k
      · exact fun _ => k
  · cases e2 : decide (c < 55296) <;> rw [e2] at k <;> simp (disch := omega) only [ws, e2]
    · cases e3 : decide (57343 < c) <;> rw [e3] at k <;> simp (disch := omega) only [ws, e3, F189_3]
      · exact fun _ => k
      · cases e4 : decide (c ≤ 1114111) <;> rw [e4] at k <;> simp (disch := omega) only [ws, e4, F189_3]
        · exact fun _ => k
        · exact fun _ => k
    · exact fun _ => k

/-- Does a text begin so? -/
def hasP (p l : Bs) : Bool := l.take p.length == p
theorem hasP_ok {n : Nat} (hn : 1 ≤ n) {p l : Bs} {h : H} {K : V → H → Prop} (k : K (.b (hasP p l)) h) : Ok Tryz.prog n 157 [.s l, .s p] h K := by
  obtain ⟨n, rfl⟩ := Nat.exists_eq_add_of_le' hn
  refine Ok.bd (K157 fun hbd => ?_)
  unfold F157
  simp (disch := omega) only [ws, lg_s tt9 rfl]
  by_cases hl : p.length ≤ l.length
  · have d1 : decide ((p.length : Int) ≤ (l.length : Int)) = true := by simpa using hl
    simp (disch := omega) only [ws, d1]
    rw [lg_s tt9 rfl, sc_s0 tt9 rfl hl, eq_s]
    exact fun _ => k
  · have d1 : decide ((p.length : Int) ≤ (l.length : Int)) = false := by simpa using hl
    simp (disch := omega) only [ws, d1]
    have : hasP p l = false := by
      unfold hasP
      cases e : (l.take p.length == p) with
      | false => rfl
      | true =>
        have := congrArg List.length (eq_of_beq e)
        rw [List.length_take] at this
        omega
    rw [this] at k
    exact fun _ => k
theorem cutp_ok {n : Nat} (hn : 3 ≤ n) {p l : Bs} {h : H} {K : V → H → Prop} (k : K (if hasP p l = true then .t [.s (l.drop p.length), .b true] else .t [.s l, .b false]) h) : Ok Tryz.prog n 106 [.s l, .s p] h K := by
  obtain ⟨n, rfl⟩ := Nat.exists_eq_add_of_le' hn
  refine Ok.bd (K106 fun hbd => ?_)
  unfold F106
  simp (disch := omega) only [ws]
  refine K134 fun hbd => ?_
  unfold F134
  simp (disch := omega) only [ws]
  refine hasP_ok (by omega) ?_
  cases e : hasP p l with
  | false =>
    rw [e, if_neg (by decide)] at k
    simp (disch := omega) only [ws, List.getElem?_cons_zero, List.getElem?_cons_succ]
    exact fun _ => k
  | true =>
    rw [e, if_pos rfl] at k
    have hl : p.length ≤ l.length := by
      have := congrArg List.length (eq_of_beq (show (l.take p.length == p) = true from e))
      rw [List.length_take] at this
      omega
    simp (disch := omega) only [ws, F134_5, lg_s tt9 rfl]
    rw [sc_s1 tt9 rfl hl]
    simp (disch := omega) only [ws, List.getElem?_cons_zero, List.getElem?_cons_succ]
    exact fun _ => k
end Go.Proofs.YtbkhielalbbopaaGreatDoor.Wb
