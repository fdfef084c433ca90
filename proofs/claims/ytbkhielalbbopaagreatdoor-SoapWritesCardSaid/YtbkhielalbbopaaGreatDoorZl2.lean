/- XmlPlain: the walk of the law. -/
import Derived.Test.YtbkhielalbbopaaGreatDoorZl1
set_option linter.unusedSimpArgs false
set_option linter.unusedVariables false
set_option linter.unusedSectionVars false
set_option linter.unnecessarySimpa false
set_option maxRecDepth 100000
namespace Go.Proofs.YtbkhielalbbopaaGreatDoor.Wb
open Go Go.Am Go.Am.Xm

def azB (c : UInt8) : Bool := decide (97 ≤ c.toNat) && decide (c.toNat ≤ 122)
theorem az_all : (List.range 256).all (fun n => !azB (UInt8.ofNat n) || (inS nmS (UInt8.ofNat n) && decide (Lib.indexByte mrS (UInt8.ofNat n) < 0))) = true := by decide +kernel
theorem az_nm {c : UInt8} (h : azB c = true) : inS nmS c = true ∧ Lib.indexByte mrS c < 0 := by
  have := List.all_eq_true.1 az_all c.toNat (List.mem_range.2 c.toNat_lt)
  have e : UInt8.ofNat c.toNat = c := by simp
  rw [e, h] at this
  simpa using this
theorem az_lim {c : UInt8} (h : azB c = true) : 97 ≤ c.toNat ∧ c.toNat ≤ 122 := by
  simpa [azB] using h
theorem az_ne {c d : UInt8} (h : azB c = true) (hd : d.toNat < 97) : c ≠ d := fun e => by
  have := az_lim h
  rw [e] at this
  omega

theorem lastB_at {a b : Bs} {c : UInt8} (hb : c ∉ b) : ∀ j, j ≤ b.length → lastB (a ++ c :: b) c (a.length + 1 + j) = a.length
  | 0, _ => by
    show (if (a ++ c :: b)[a.length]? = some c then _ else _) = _
    rw [if_pos (by rw [List.getElem?_append_right (Nat.le_refl _), Nat.sub_self]; rfl)]
  | j + 1, hj => by
    show (if (a ++ c :: b)[a.length + 1 + j]? = some c then _ else lastB (a ++ c :: b) c (a.length + 1 + j)) = _
    rw [if_neg, lastB_at hb j (by omega)]
    intro e
    rw [List.getElem?_append_right (by omega), show a.length + 1 + j - a.length = j + 1 by omega, List.getElem?_cons_succ] at e
    exact hb (List.mem_of_getElem? e)
theorem plainS_at {a b : Bs} (hb : (58 : UInt8) ∉ b) : plainS (a ++ 58 :: b) = b := by
  have h := lastB_at (a := a) hb b.length (Nat.le_refl _)
  unfold plainS
  have e : (a ++ 58 :: b).length = a.length + 1 + b.length := by simp; omega
  rw [e, h, show ((a.length : Int) + 1).toNat = a.length + 1 by omega]
  have : a ++ 58 :: b = (a ++ [58]) ++ b := by simp
  rw [this]
  exact List.drop_left' (by simp)

theorem NM.of {a b : Bs} (ha : ∀ c ∈ a, azB c = true) (hb : ∀ c ∈ b, azB c = true) : NM (a ++ [58] ++ b) b := by
  refine ⟨fun c hc => ?_, ?_, ?_, ?_⟩
  · simp only [List.mem_append, List.mem_singleton] at hc
    rcases hc with (hc | hc) | hc
    · exact (az_nm (ha c hc)).1
    · subst hc; decide
    · exact (az_nm (hb c hc)).1
  · cases a with
    | nil => exact ⟨58, b, rfl, by decide, by decide, by decide⟩
    | cons c a =>
      have h := ha c (List.mem_cons_self ..)
      exact ⟨c, a ++ [58] ++ b, rfl, az_ne h (by decide), az_ne h (by decide), az_ne h (by decide)⟩
  · cases a with
    | nil =>
      show decide (0 ≤ Lib.indexByte mrS 58) = false
      decide
    | cons c a =>
      have h := (az_nm (ha c (List.mem_cons_self ..))).2
      show decide (0 ≤ Lib.indexByte mrS c) = false
      exact decide_eq_false (by omega)
  · rw [List.append_assoc]
    exact plainS_at fun h => az_ne (hb _ h) (by decide) rfl

theorem pln_app {a b : Bs} (h1 : plnB a) (h2 : plnB b) : plnB (a ++ b) := fun c hc => by
  rcases List.mem_append.1 hc with hc | hc
  · exact h1 c hc
  · exact h2 c hc
theorem pln_az {a : Bs} (h : ∀ c ∈ a, azB c = true) : plnB a := fun c hc => by
  have := az_lim (h c hc)
  omega
theorem pln_lit {a : Bs} (h : (a.all fun c => decide (32 ≤ c.toNat) && decide (c.toNat < 128)) = true) : plnB a := fun c hc => by
  have := List.all_eq_true.1 h c hc
  simpa using this

end Go.Proofs.YtbkhielalbbopaaGreatDoor.Wb
