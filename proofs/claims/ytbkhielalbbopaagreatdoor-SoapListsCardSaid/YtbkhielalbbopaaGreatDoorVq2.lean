/- The lists' law, plainly: what stands in the table, and in which order. -/
import Derived.Test.YtbkhielalbbopaaGreatDoorVq1
set_option linter.unusedSimpArgs false
set_option linter.unusedVariables false
set_option linter.unusedSectionVars false
set_option linter.unnecessarySimpa false
set_option maxRecDepth 100000
namespace Go.Proofs.YtbkhielalbbopaaGreatDoor.Wb
open Go.Am

theorem sorted_eq : ∀ (l1 l2 : List Mp), l1.Pairwise lt → l2.Pairwise lt → (∀ e, e ∈ l1 ↔ e ∈ l2) → l1 = l2
  | [], [], _, _, _ => rfl
  | [], b :: l2, _, _, h => by have := (h b).2 (List.mem_cons_self ..); cases this
  | a :: l1, [], _, _, h => by have := (h a).1 (List.mem_cons_self ..); cases this
  | a :: l1, b :: l2, h1, h2, h => by
    obtain ⟨a1, a2⟩ := List.pairwise_cons.1 h1
    obtain ⟨b1, b2⟩ := List.pairwise_cons.1 h2
    have hab : a = b := by
      rcases List.mem_cons.1 ((h a).1 (List.mem_cons_self ..)) with e | e
      · exact e
      · rcases List.mem_cons.1 ((h b).2 (List.mem_cons_self ..)) with e2 | e2
        · exact e2.symm
        · exact absurd (a1 b e2) (lt_as (b1 a e))
    subst hab
    rw [sorted_eq l1 l2 a2 b2 fun e => ?_]
    constructor
    · intro he
      rcases List.mem_cons.1 ((h e).1 (List.mem_cons_of_mem _ he)) with e2 | e2
      · subst e2; exact absurd (a1 e he) (lt_irr e)
      · exact e2
    · intro he
      rcases List.mem_cons.1 ((h e).2 (List.mem_cons_of_mem _ he)) with e2 | e2
      · subst e2; exact absurd (b1 e he) (lt_irr e)
      · exact e2

def uM (p : Nat) : Mp := ⟨17, p, ⟨10, 0, 0, 5⟩, 80, 3, 69⟩
def aM (i : Nat) : Mp := ⟨17, ((50000 + i : Nat) : Int), ⟨10, 0, 0, 7⟩, ((50000 + i : Nat) : Int), 1, 69⟩
def esN : Nat → List Mp
  | 0 => []
  | i + 1 => esN i ++ [uM (200 - i)] ++ [aM i]
theorem esN_mem : ∀ {n : Nat} {e : Mp}, e ∈ esN n ↔ ∃ j, j < n ∧ (e = uM (200 - j) ∨ e = aM j)
  | 0, e => by simp [esN]
  | n + 1, e => by
    simp only [esN, List.mem_append, List.mem_singleton, esN_mem]
    constructor
    · rintro ((⟨j, hj, h⟩ | h) | h)
      · exact ⟨j, by omega, h⟩
      · exact ⟨n, by omega, .inl h⟩
      · exact ⟨n, by omega, .inr h⟩
    · rintro ⟨j, hj, h⟩
      by_cases hjn : j = n
      · subst hjn
        rcases h with h | h
        · exact .inl (.inr h)
        · exact .inr h
      · exact .inl (.inl ⟨j, by omega, h⟩)
theorem esN_len : ∀ n : Nat, (esN n).length = 2 * n
  | 0 => rfl
  | n + 1 => by simp [esN, esN_len n]; omega
theorem lv_uM (p : Nat) : lvE (uM p) 9 = true := rfl
theorem lv_aM (i : Nat) : lvE (aM i) 9 = true := rfl
theorem esN_liv (n : Nat) : liv 9 (esN n) = esN n := by
  unfold liv
  rw [List.filter_eq_self]
  intro e he
  obtain ⟨j, _, h | h⟩ := esN_mem.1 he
  · rw [h]; rfl
  · rw [h]; rfl
theorem esN_two : ∀ {n : Nat}, n ≤ 20 → two (esN n)
  | 0, _ => List.Pairwise.nil
  | n + 1, h => by
    unfold two esN
    have ih := esN_two (n := n) (by omega)
    refine List.pairwise_append.2 ⟨List.pairwise_append.2 ⟨ih, List.pairwise_singleton _ _, fun a ha b hb => ?_⟩, List.pairwise_singleton _ _, fun a ha b hb => ?_⟩
    · rw [List.mem_singleton] at hb
      subst hb
      obtain ⟨j, hj, h | h⟩ := esN_mem.1 ha <;> subst h
      · intro e
        have := e.2
        simp only [uM] at this
        omega
      · intro e
        have := e.2
        simp only [uM, aM] at this
        omega
    · rw [List.mem_singleton] at hb
      subst hb
      rcases List.mem_append.1 ha with ha | ha
      · obtain ⟨j, hj, h | h⟩ := esN_mem.1 ha <;> subst h
        · intro e
          have := e.2
          simp only [uM, aM] at this
          omega
        · intro e
          have := e.2
          simp only [aM] at this
          omega
      · rw [List.mem_singleton] at ha
        subst ha
        intro e
        have := e.2
        simp only [uM, aM] at this
        omega

/-- In order. -/
def srU (n : Nat) : List Mp := (List.range n).map fun k => uM (201 - n + k)
def srN (n : Nat) : List Mp := srU n ++ (List.range n).map aM
theorem srN_mem {n : Nat} (hn : n ≤ 20) {e : Mp} : e ∈ srN n ↔ e ∈ esN n := by
  rw [esN_mem]
  simp only [srN, srU, List.mem_append, List.mem_map, List.mem_range]
  constructor
  · rintro (⟨k, hk, h⟩ | ⟨k, hk, h⟩)
    · exact ⟨n - 1 - k, by omega, .inl (by rw [← h]; congr 1; omega)⟩
    · exact ⟨k, hk, .inr h.symm⟩
  · rintro ⟨j, hj, h | h⟩
    · exact .inl ⟨n - 1 - j, by omega, by rw [h]; congr 1; omega⟩
    · exact .inr ⟨j, hj, h.symm⟩
theorem srN_lt {n : Nat} (hn : n ≤ 20) : (srN n).Pairwise lt := by
  unfold srN srU
  refine List.pairwise_append.2 ⟨?_, ?_, fun a ha b hb => ?_⟩
  · rw [List.pairwise_map]
    exact List.Pairwise.imp (fun {a b} h => .inr ⟨rfl, by show ((201 - n + a : Nat) : Int) < ((201 - n + b : Nat) : Int); omega⟩) (List.pairwise_lt_range (n := n))
  · rw [List.pairwise_map]
    exact List.Pairwise.imp (fun {a b} h => .inr ⟨rfl, by show ((50000 + a : Nat) : Int) < ((50000 + b : Nat) : Int); omega⟩) (List.pairwise_lt_range (n := n))
  · obtain ⟨i, hi, rfl⟩ := List.mem_map.1 ha
    obtain ⟨j, hj, rfl⟩ := List.mem_map.1 hb
    rw [List.mem_range] at hi hj
    exact .inr ⟨rfl, by show ((201 - n + i : Nat) : Int) < ((50000 + j : Nat) : Int); omega⟩
theorem all_is {n N : Nat} (hn : n ≤ 20) {g : Nat → Mp} (hs : Srt 0 N g) (hd : Dis N g) (h1 : ∀ x, x < N → g x ∈ esN n) (h2 : ∀ e, e ∈ esN n → ∃ x, x < N ∧ g x = e) : fl N g = srN n := by
  refine sorted_eq _ _ ?_ (srN_lt hn) fun e => ?_
  · unfold fl
    rw [List.pairwise_map]
    refine List.pairwise_iff_getElem.2 fun i j hi hj hij => ?_
    rw [List.length_range] at hi hj
    rw [List.getElem_range, List.getElem_range]
    rcases hd i j hi hj (by omega) with h | h
    · exact h
    · exact absurd h (hs i j (Nat.zero_le _) hij hj)
  · rw [srN_mem hn]
    unfold fl
    rw [List.mem_map]
    constructor
    · rintro ⟨x, hx, rfl⟩
      exact h1 x (List.mem_range.1 hx)
    · intro he
      obtain ⟨x, hx, e⟩ := h2 e he
      exact ⟨x, List.mem_range.2 hx, e⟩
/-- What is told of: the hosts' own. -/
theorem told_is {n : Nat} : (srN n).filter (fun e => decide (e.kd ≠ 1) && decide (e.p ≠ 1)) = srU n := by
  unfold srN
  rw [List.filter_append]
  have e1 : (srU n).filter (fun e => decide (e.kd ≠ 1) && decide (e.p ≠ 1)) = srU n := by
    rw [List.filter_eq_self]
    intro e he
    obtain ⟨k, _, rfl⟩ := List.mem_map.1 he
    rfl
  have e2 : ((List.range n).map aM).filter (fun e => decide (e.kd ≠ 1) && decide (e.p ≠ 1)) = [] := by
    rw [List.filter_eq_nil_iff]
    intro e he
    obtain ⟨k, _, rfl⟩ := List.mem_map.1 he
    simp [aM]
  rw [e1, e2, List.append_nil]
end Go.Proofs.YtbkhielalbbopaaGreatDoor.Wb
