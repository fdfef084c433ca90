/- Sums of bytes: what they come to, plainly. -/
import Derived.KernelRfl
set_option linter.unusedSimpArgs false
set_option linter.unusedVariables false
set_option linter.unusedSectionVars false
set_option linter.unnecessarySimpa false
namespace Go.Sum

/-- A sum, with what is above 16 bits added again. -/
def nrm (s : Nat) : Nat := if s = 0 then 0 else (s - 1) % 65535 + 1
def wsum : List UInt8 → Nat
  | a :: b :: l => a.toNat * 256 + b.toNat + wsum l
  | [a] => a.toNat * 256
  | [] => 0

theorem nrm_lt (s : Nat) : nrm s ≤ 65535 := by unfold nrm; split <;> omega
theorem nrm_small {s : Nat} (h : s ≤ 65535) : nrm s = s := by unfold nrm; split <;> omega
theorem nrm_fold {s : Nat} (h : s ≤ 131070) : nrm s = s % 65536 + s / 65536 := by unfold nrm; split <;> omega
theorem nrm_add (a b : Nat) : nrm (nrm a + b) = nrm (a + b) := by unfold nrm; split <;> split <;> split <;> omega
theorem nrm_add' (a b : Nat) : nrm (a + nrm b) = nrm (a + b) := by rw [Nat.add_comm, nrm_add, Nat.add_comm]
theorem nrm_mod {a b : Nat} (h : a % 65535 = b % 65535) (h0 : a = 0 ↔ b = 0) : nrm a = nrm b := by unfold nrm; split <;> split <;> omega

/-- Add, as integers tell it. -/
def addI (a b : Int) : Int := (a % 65536 + b % 65536) % 65536 + (a % 65536 + b % 65536) / 65536
theorem addI_nrm (a b : Nat) (ha : a ≤ 65535) (hb : b ≤ 65535) : addI a b = nrm (a + b) := by
  unfold addI
  rw [nrm_fold (by omega)]; omega
theorem addI_lo (a b : Int) : 0 ≤ addI a b ∧ addI a b ≤ 65535 := by unfold addI; omega
theorem wsum_cons2 (a b : UInt8) (l : List UInt8) : wsum (a :: b :: l) = a.toNat * 256 + b.toNat + wsum l := rfl

/-! ### Sums over places -/
def wAt (bs : List UInt8) (j : Nat) : Nat := (bs.getD (2 * j) 0).toNat * 256 + (bs.getD (2 * j + 1) 0).toNat
def sumTo (f : Nat → Nat) : Nat → Nat
  | 0 => 0
  | n + 1 => sumTo f n + f n
theorem sumTo_cons (f : Nat → Nat) : ∀ n, sumTo f (n + 1) = f 0 + sumTo (fun j => f (j + 1)) n
  | 0 => by simp [sumTo]
  | n + 1 => by
    have := sumTo_cons f n
    show sumTo f (n + 1) + f (n + 1) = f 0 + (sumTo (fun j => f (j + 1)) n + f (n + 1))
    omega
theorem sumTo_congr {f g : Nat → Nat} : ∀ n, (∀ j, j < n → f j = g j) → sumTo f n = sumTo g n
  | 0, _ => rfl
  | n + 1, h => by
    show sumTo f n + f n = sumTo g n + g n
    rw [sumTo_congr n fun j hj => h j (by omega), h n (by omega)]
theorem sumTo_one {f g : Nat → Nat} {i : Nat} : ∀ n, i < n → (∀ j, j < n → j ≠ i → f j = g j) → sumTo f n + g i = sumTo g n + f i
  | 0, hi, _ => by omega
  | n + 1, hi, h => by
    show sumTo f n + f n + g i = sumTo g n + g n + f i
    by_cases e : i = n
    · subst e
      rw [sumTo_congr i fun j hj => h j (by omega) (by omega)]; omega
    · have := sumTo_one n (by omega) fun j hj hne => h j (by omega) hne
      have := h n (by omega) (by omega)
      omega
theorem sumTo_swap {f g : Nat → Nat} {i k n : Nat} (hi : i < n) (hk : k < n) (h1 : g i = f k) (h2 : g k = f i) (h : ∀ j, j < n → j ≠ i → j ≠ k → g j = f j) : sumTo g n = sumTo f n := by
  by_cases e : i = k
  · subst e
    exact sumTo_congr n fun j hj => by
      by_cases e : j = i
      · subst e; exact h1
      · exact h j hj e e
  · have a := sumTo_one (f := fun j => if j = i then f k else f j) (g := f) (i := i) n hi fun j _ hj => by simp [hj]
    have b := sumTo_one (f := g) (g := fun j => if j = i then f k else f j) (i := k) n hk fun j hj hne => by
      by_cases ej : j = i
      · subst ej; simp [h1]
      · simp [ej, h j hj ej hne]
    have e0 : ¬ k = i := fun h => e h.symm
    simp only [if_pos] at a
    simp only [if_neg e0] at b
    omega

theorem wsum_eq : ∀ bs : List UInt8, wsum bs = sumTo (wAt bs) ((bs.length + 1) / 2)
  | [] => rfl
  | [a] => by simp [wsum, sumTo, wAt]
  | a :: b :: l => by
    rw [show ((a :: b :: l).length + 1) / 2 = (l.length + 1) / 2 + 1 by simp; omega, sumTo_cons, wsum_cons2, wsum_eq l]
    congr 1

theorem getD_set (bs : List UInt8) (i j : Nat) (c : UInt8) : (bs.set i c).getD j 0 = if i = j ∧ j < bs.length then c else bs.getD j 0 := by
  rw [List.getD_eq_getElem?_getD, List.getD_eq_getElem?_getD, List.getElem?_set]
  by_cases h : i = j
  · subst h
    by_cases h2 : i < bs.length
    · rw [if_pos rfl, if_pos h2, if_pos ⟨rfl, h2⟩]; rfl
    · rw [if_pos rfl, if_neg h2, if_neg (fun e => h2 e.2), List.getElem?_eq_none (by omega)]
  · rw [if_neg h, if_neg (fun e => h e.1)]

theorem wsum_swap {bs : List UInt8} {i k : Nat} (hi : 2 * i + 1 < bs.length) (hk : 2 * k + 1 < bs.length) :
    wsum ((((bs.set (2 * i) (bs.getD (2 * k) 0)).set (2 * i + 1) (bs.getD (2 * k + 1) 0)).set (2 * k) (bs.getD (2 * i) 0)).set (2 * k + 1) (bs.getD (2 * i + 1) 0)) = wsum bs := by
  rw [wsum_eq, wsum_eq]
  simp only [List.length_set]
  refine sumTo_swap (i := i) (k := k) (by omega) (by omega) ?_ ?_ ?_
  · by_cases e : i = k
    · subst e
      simp only [wAt, getD_set, List.length_set]
      simp (disch := omega) only [if_pos, if_neg, true_and]
    · simp only [wAt, getD_set, List.length_set]
      simp (disch := omega) only [if_pos, if_neg, true_and]
  · simp only [wAt, getD_set, List.length_set]
    simp (disch := omega) only [if_pos, if_neg, true_and]
  · intro j hj h1 h2
    simp only [wAt, getD_set, List.length_set]
    simp (disch := omega) only [if_pos, if_neg, true_and]
end Go.Sum
