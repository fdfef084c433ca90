/- A name behind its last colon. -/
import Derived.Test.YtbkhielalbbopaaGreatDoorZp8
set_option linter.unusedSimpArgs false
set_option linter.unusedVariables false
set_option linter.unusedSectionVars false
set_option linter.unnecessarySimpa false
set_option maxRecDepth 100000
namespace Go.Proofs.YtbkhielalbbopaaGreatDoor.Wb
open Go Go.Am Go.Am.Xm

/-- A byte's last place ahead of place i; -1: none. -/
def lastB (l : Bs) (c : UInt8) : Nat → Int
  | 0 => -1
  | i + 1 => if l[i]? = some c then (i : Int) else lastB l c i
theorem lastB_ge (l : Bs) (c : UInt8) : ∀ i, -1 ≤ lastB l c i ∧ lastB l c i < i
  | 0 => by simp [lastB]
  | i + 1 => by
    have := lastB_ge l c i
    simp only [lastB]
    split <;> omega

theorem lbl_ok {n : Nat} {l : Bs} {c : UInt8} (hl : l.length < 50000) {h : H} {K : V → H → Prop} (k : K (.i .i64 (lastB l c l.length)) h) :
    ∀ (m i : Nat), i < m → i ≤ l.length → lastB l c i = lastB l c l.length → F135_10 pw (mkX Tryz.prog) (Ok Tryz.prog n) (fun v h => Bd h → K v h) m (.s l) (.i .u8 c.toNat) (.i .i64 ((i : Int) - 1)) h := by
  intro m
  induction m with
  | zero => intro i hm; omega
  | succ m ih =>
    intro i hm hi e
    show pw.ge _ _ _ _ _
    rw [ge_i]
    match i, hm, hi, e with
    | 0, hm, hi, e =>
      rw [decide_eq_false (show ¬ (0 : Int) ≤ ((0 : Nat) : Int) - 1 by omega), cd_f]
      unfold F135_4
      rw [← e] at k
      exact fun _ => k
    | i + 1, hm, hi, e =>
      rw [decide_eq_true (show (0 : Int) ≤ ((i + 1 : Nat) : Int) - 1 by omega), cd_t]
      unfold F135_14
      have hlt : i < l.length := by omega
      have hsp : l[i]? = some (l[i]'hlt) := List.getElem?_eq_getElem hlt
      rw [show ((i + 1 : Nat) : Int) - 1 = (i : Int) by omega, ix_s tt9 rfl hsp, eq_i]
      simp only [lastB] at e
      by_cases hc : l[i]'hlt = c
      · rw [decide_eq_true (by rw [hc]), cd_t]
        rw [if_pos (by rw [hsp, hc])] at e
        rw [← e] at k
        exact fun _ => k
      · have hne : ¬ ((l[i]'hlt).toNat : Int) = (c.toNat : Int) := fun h => hc (UInt8.toNat.inj (by omega))
        rw [decide_eq_false hne, cd_f]
        rw [if_neg (by rw [hsp]; exact fun h => hc (Option.some.inj h))] at e
        unfold F135_18
        rw [sb_64 (by omega)]
        exact ih i (by omega) (by omega) e

theorem last_ok {n : Nat} (hn : 2 ≤ n) {l : Bs} {c : UInt8} (hl : l.length < 50000) {h : H} {K : V → H → Prop} (k : K (.i .i64 (lastB l c l.length)) h) : Ok Tryz.prog n 109 [.s l, .s [c]] h K := by
  obtain ⟨n, rfl⟩ := Nat.exists_eq_add_of_le' hn
  refine Ok.bd (K109 fun hbd => ?_)
  unfold F109
  rw [lg_s tt9 rfl, eq_i, decide_eq_false (show ¬ ((([c] : Bs).length : Nat) : Int) = 0 by simp), cd_f, eq_i, decide_eq_true (show ((([c] : Bs).length : Nat) : Int) = 1 by simp), cd_t]
  rw [show pw.ix (mkX Tryz.prog) 9 (.s [c]) (.i .i64 0) = fun κ => κ (.i .u8 c.toNat) from funext fun κ => ix_s tt9 rfl (n := 0) rfl]
  dsimp only
  rw [cf_k]
  refine Ok.bd (K135 fun hbd => ?_)
  unfold F135
  rw [lg_s tt9 rfl, sb_64 (by omega)]
  exact lbl_ok hl (fun _ => k) 100000 l.length (by omega) (Nat.le_refl _) rfl

/-- A plain name. -/
def plainS (l : Bs) : Bs := l.drop (lastB l 58 l.length + 1).toNat
theorem plain_ok {n : Nat} (hn : 3 ≤ n) {l : Bs} (hl : l.length < 50000) {h : H} {K : V → H → Prop} (k : K (.s (plainS l)) h) : Ok Tryz.prog n 79 [.s l] h K := by
  obtain ⟨n, rfl⟩ := Nat.exists_eq_add_of_le' hn
  refine Ok.bd (K79 fun hbd => ?_)
  unfold F79
  simp only [cf_k, c79]
  refine last_ok (by omega) hl ?_
  have hg := lastB_ge l 58 l.length
  rw [ad_64 (by omega), show lastB l 58 l.length + 1 = (((lastB l 58 l.length + 1).toNat : Nat) : Int) by omega, sc_s1 tt9 rfl (by omega)]
  exact fun _ => k
end Go.Proofs.YtbkhielalbbopaaGreatDoor.Wb
