/- A law's row where an integer's variable and a sentinel are laid. -/
import Derived.Test.YtbkhielalbbopaaDoorXs12
import Derived.Test.YtbkhielalbbopaaDoorM4
import Derived.Stop.LaidErr
set_option linter.unusedSimpArgs false
set_option linter.unusedVariables false
set_option linter.unusedSectionVars false
set_option linter.unnecessarySimpa false
namespace Go.Am
open Go.ChangeShapes Go.WideShapes Go.ChangeAt Go.RowKit

/-- Where the variables lie, and one block more. -/
def j1 (c d : Nat) : Inj := fun r => if r < 16 then some ⟨r, 0, 0, none⟩ else if r = 16 then some ⟨c, d, 0, none⟩ else none
theorem j1_go (c d : Nat) : GO (j1 c d) := fun g hg => by unfold j1; rw [if_pos hg]
theorem fresh_j1 {c d n m : Nat} (hn : 17 ≤ n) : Fresh (j1 c d) n m := fun r h _ => by unfold j1; rw [if_neg (by omega), if_neg (by omega)]

theorem HRel.startJ (P : Program) (w : World) {j : Inj} (hj : GO j) (n : Nat) (m : T B) (hn : 16 ≤ n) (hm : ∀ r b, m.get r = some b → r < 16 ∧ r < w.heap.size ∧ ∃ l ty, b = .c l ty false ∧ CellsRel j ⟨r, 0, 0, .none⟩ l w) : HRel P w.heap.size j ⟨n, m⟩ w where
  blk r b q h hq := by
    obtain ⟨h1, h2, l, ty, rfl, hc⟩ := hm r b h
    have : q = ⟨r, 0, 0, .none⟩ := by rw [hj r h1] at hq; cases hq; rfl
    subst this
    exact ⟨hc, by rw [if_neg (by simp)]; exact h2⟩
  inj r r' b b' q q' h h' h3 h4 ho h6 h7 := by
    obtain ⟨_, _, l, ty, rfl, _⟩ := hm r b h
    cases ho
  next r b h := Nat.lt_of_lt_of_le (hm r b h).1 hn
  base := Nat.le_refl _
  glob := hj

/-- An integer in variable g, a pointer behind an interface in variable e. -/
def mem2 (g : Nat) (k : IntKind) (m : Int) (e : Nat) (tp : TypeId) : T B := (T.l.put e (some (.c [.ic tp (.p 16 0)] 0 false))).put g (some (.c [.i k m] 0 false))

theorem hrel_two (P : Program) (w : World) {g e : Nat} {k : IntKind} {m : Int} {tp : TypeId} {a : Addr} (hg : g < 16) (he : e < 16) (hs : a.spot = none) (h1 : w.cell? ⟨g, 0, none⟩ = some (.int k m)) (h2 : w.cell? ⟨e, 0, none⟩ = some (.iface tp (.pointer (some a)))) :
    HRel P w.heap.size (j1 a.block a.off) ⟨17, mem2 g k m e tp⟩ w := by
  refine HRel.startJ P w (j1_go _ _) 17 _ (by decide) fun r b hb => ?_
  unfold mem2 at hb
  rw [T.get_put] at hb
  by_cases hr : g = r
  · rw [if_pos hr] at hb
    cases hb
    subst hr
    refine ⟨hg, laid_lt h1, _, _, rfl, fun i u hu => ?_⟩
    match i, hu with
    | 0, hu => cases hu; exact ⟨_, h1, rfl⟩
    | i + 1, hu => simp at hu
  · rw [if_neg hr, T.get_put] at hb
    by_cases hr2 : e = r
    · rw [if_pos hr2] at hb
      cases hb
      subst hr2
      refine ⟨he, laid_lt h2, _, _, rfl, fun i u hu => ?_⟩
      match i, hu with
      | 0, hu =>
        cases hu
        refine ⟨_, h2, ?_⟩
        obtain ⟨c, d, s⟩ := a
        cases hs
        rfl
      | i + 1, hu => simp at hu
    · rw [if_neg hr2] at hb
      simp [T.get] at hb

theorem calls_two {P : Program} {n : Nat} {f : FuncId} {args : List V} (w : World) {g e : Nat} {k : IntKind} {m : Int} {tp : TypeId} {a : Addr} (hg : g < 16) (he : e < 16) (hs : a.spot = none) (h1 : w.cell? ⟨g, 0, none⟩ = some (.int k m)) (h2 : w.cell? ⟨e, 0, none⟩ = some (.iface tp (.pointer (some a))))
    (ok : Ok P n f args ⟨17, mem2 g k m e tp⟩ fun v _ => v = .b true) {args' : List Value} (ha : rens (j1 a.block a.off) args = some args') :
    Calls P f ⟨args'⟩ w fun e w' => e = .returned (.bool true) ∧ Below w.heap.size w w' := by
  have R := hrel_two P w hg he hs h1 h2
  obtain ⟨v, h', hh, _, _, rfl⟩ := ok fun r b hb => R.next r b hb
  refine Calls.mono (sem_calls ⟨_, rfl⟩ hh R ha (fresh_j1 (Nat.le_refl _))) ?_
  rintro e w' ⟨v', j', rfl, s, hv⟩
  rw [inv_b hv]
  exact ⟨rfl, s.below R⟩

end Go.Am
