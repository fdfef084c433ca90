/- So many hosts with one port of theirs have a port each. -/
import Derived.Test.YtfkbofbdonmpfaaPo6
import Derived.Test.YtfkbofbdonmpfaaM3
set_option linter.unusedSimpArgs false
set_option linter.unusedVariables false
set_option linter.unusedSectionVars false
set_option linter.unnecessarySimpa false
set_option maxRecDepth 100000
namespace Go.Proofs.Ytfkbofbdonmpfaa.Wb
open Go.Am

def mF (port : Int) (i : Nat) : Fl := ⟨6, ⟨10, 0, 0, (i : Int)⟩, port⟩

structure ManyI (port N : Int) (i : Nat) (es : List Mp) : Prop where
  len : es.length = i
  all : ∀ e ∈ es, e.p = 6 ∧ e.kd = 1 ∧ e.un = 60 ∧ ∃ k : Nat, k < i ∧ e.ad = ⟨10, 0, 0, (k : Int)⟩
  tk : ∀ o, (∃ e ∈ es, e.o = o) ↔ ((0 < i ∧ 40000 ≤ port ∧ o = port) ∨ (40000 ≤ o ∧ o < N))
  n0 : 40000 ≤ N ∧ N ≤ 40000 + 2 * (i : Int)

theorem ManyI.nil (port : Int) : ManyI port 40000 0 [] := ⟨rfl, fun e h => by simp at h, fun o => by simp, by omega⟩
theorem ManyI.free {port N : Int} {i : Nat} {es : List Mp} (I : ManyI port N i es) (o : Int) : freeP 6 o 0 es ↔ ¬ ((0 < i ∧ 40000 ≤ port ∧ o = port) ∨ (40000 ≤ o ∧ o < N)) := by
  rw [← I.tk o]
  constructor
  · rintro h ⟨e, he, rfl⟩
    have h1 := fndP_neg h e he
    obtain ⟨a, b, c, _⟩ := I.all e he
    simp [fdE, lvE, a, c] at h1
  · intro h
    have : fndP (fdE 6 o 0) es 0 = -1 := fndP_none fun e he => by
      have : e.o ≠ o := fun e1 => h ⟨e, he, e1⟩
      simp [fdE, this]
    show fndP (fdE 6 o 0) es 0 < 0
    omega
theorem ManyI.out {port N : Int} {i : Nat} {es : List Mp} (I : ManyI port N i es) : ∀ e ∈ es, outE (mF port i) 0 e = false := fun e he => by
  obtain ⟨_, _, _, k, hk, h⟩ := I.all e he
  have : e.ad ≠ (mF port i).ad := by
    rw [h]
    intro h2
    simp [mF] at h2
    omega
  simp [outE, this]
theorem ManyI.cnt {port N : Int} {i : Nat} {es : List Mp} (I : ManyI port N i es) : cntL 0 es = i ∧ cntL 60 es = 0 := by
  constructor
  · rw [cntL, List.filter_eq_self.2, I.len]
    intro e he
    obtain ⟨_, a, b, _⟩ := I.all e he
    simp [lvE, a, b]
  · rw [cntL, List.filter_eq_nil_iff.2]; rfl
    intro e he
    obtain ⟨_, a, b, _⟩ := I.all e he
    simp [lvE, a, b]
theorem ManyI.step {port N o N' : Int} {i : Nat} {es : List Mp} (I : ManyI port N i es) (hf : freeP 6 o 0 es) (hN : 40000 ≤ N' ∧ N' ≤ 40000 + 2 * (i + 1 : Int)) (ht : ∀ z, ((0 < i ∧ 40000 ≤ port ∧ z = port) ∨ (40000 ≤ z ∧ z < N)) ∨ z = o ↔ ((40000 ≤ port ∧ z = port) ∨ (40000 ≤ z ∧ z < N'))) : ManyI port N' (i + 1) (es.filter (fun e => !sameE (newE (mF port i) o (0 + 60)) e) ++ [newE (mF port i) o (0 + 60)]) := by
  have h1 : es.filter (fun e => !sameE (newE (mF port i) o (0 + 60)) e) = es := List.filter_eq_self.2 fun e he => by
    have : e.o ≠ o := fun e1 => (I.free o).1 hf ((I.tk o).1 ⟨e, he, e1⟩)
    simp [sameE, newE, this]
  rw [h1]
  refine ⟨by simp [I.len], fun e he => ?_, fun z => ?_, by omega⟩
  · rcases List.mem_append.1 he with h | h
    · obtain ⟨a, b, c, k, hk, d⟩ := I.all e h
      exact ⟨a, b, c, k, by omega, d⟩
    · rw [List.mem_singleton.1 h]
      exact ⟨rfl, rfl, rfl, i, by omega, rfl⟩
  · have h2 : (∃ e ∈ es ++ [newE (mF port i) o (0 + 60)], e.o = z) ↔ ((∃ e ∈ es, e.o = z) ∨ z = o) := by
      constructor
      · rintro ⟨e, he, rfl⟩
        rcases List.mem_append.1 he with h | h
        · exact .inl ⟨e, h, rfl⟩
        · rw [List.mem_singleton.1 h]; exact .inr rfl
      · rintro (⟨e, he, rfl⟩ | rfl)
        · exact ⟨e, List.mem_append.2 (.inl he), rfl⟩
        · exact ⟨_, List.mem_append.2 (.inr (List.mem_singleton.2 rfl)), rfl⟩
    rw [h2, I.tk z, ht z]
    omega

/-- What the law tells of the next port and of the one that is wanted. -/
def wantP (port N : Int) (i : Nat) : Int := if 0 < i ∨ port < 40000 then (if N = port ∧ 40000 ≤ port then N + 1 else N) else port
def nextP (port N : Int) (i : Nat) : Int := if 0 < i ∨ port < 40000 then (if N = port ∧ 40000 ≤ port then N + 1 else N) + 1 else N

theorem ManyI.make {port N : Int} {i : Nat} {es es' : List Mp} {v : V} (I : ManyI port N i es) (hi : i < 128) (hp : 1 ≤ port ∧ port ≤ 65535) (hm : MkP 40000 128 0 (mF port i) 60 es es' v) : ManyI port (nextP port N i) (i + 1) es' ∧ v = .t [.a (encM (newE (mF port i) (wantP port N i) 60)), .i .i64 0] := by
  have hok : okA (mF port i) 60 := ⟨rfl, by show leastP 6 ≤ port; simp [leastP]; omega, hp.2, by omega, by omega⟩
  have n0 := I.n0
  cases hm with
  | arg h => exact absurd hok h
  | out j h _ h2 => rw [I.out _ (List.getElem_mem h)] at h2; cases h2
  | full _ _ h =>
    exfalso
    rcases h with h | h
    · rw [I.cnt.1] at h; omega
    · have e : (mF port i).p = 6 := rfl
      rw [e] at h
      have h1 := h N (by omega) (by omega)
      have h2 := h (N + 1) (by omega) (by omega)
      rw [I.free] at h1 h2
      omega
  | new o _ _ _ hf h =>
    have e : (mF port i).p = 6 := rfl
    have e2 : (mF port i).po = port := rfl
    rw [e] at hf h
    rw [e2] at h
    have hf' := (I.free o).1 hf
    have n1 : 40000 ≤ nextP port N i ∧ nextP port N i ≤ 40000 + 2 * (i + 1 : Int) ∧ o = wantP port N i ∧ ∀ z, ((0 < i ∧ 40000 ≤ port ∧ z = port) ∨ (40000 ≤ z ∧ z < N)) ∨ z = o ↔ ((40000 ≤ port ∧ z = port) ∨ (40000 ≤ z ∧ z < nextP port N i)) := by
      rcases h with ⟨h1, h2⟩ | ⟨h1, h2, h3, h4⟩
      · have c1 : ¬ (0 < i ∨ port < 40000) := by omega
        simp only [wantP, nextP, if_neg c1]
        exact ⟨by omega, by omega, by omega, fun z => by omega⟩
      · rw [I.free] at h1
        have h5 : ∀ z, 40000 ≤ z → z < o → ((0 < i ∧ 40000 ≤ port ∧ z = port) ∨ (40000 ≤ z ∧ z < N)) := fun z z1 z2 => Classical.byContradiction fun z3 => h4 z z1 z2 ((I.free z).2 z3)
        have a1 := h5 N
        have a2 := h5 (N + 1)
        have c1 : 0 < i ∨ port < 40000 := by omega
        simp only [wantP, nextP, if_pos c1]
        by_cases c2 : N = port ∧ 40000 ≤ port
        · simp only [if_pos c2]
          exact ⟨by omega, by omega, by omega, fun z => by omega⟩
        · simp only [if_neg c2]
          exact ⟨by omega, by omega, by omega, fun z => by omega⟩
    obtain ⟨n1, n2, rfl, n3⟩ := n1
    exact ⟨I.step hf ⟨n1, n2⟩ n3, rfl⟩
end Go.Proofs.Ytfkbofbdonmpfaa.Wb
