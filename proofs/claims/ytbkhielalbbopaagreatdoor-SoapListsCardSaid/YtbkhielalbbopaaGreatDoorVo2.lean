/- Sorting: by insertion. -/
import Derived.Test.YtbkhielalbbopaaGreatDoorVo1
set_option linter.unusedSimpArgs false
set_option linter.unusedVariables false
set_option linter.unusedSectionVars false
set_option linter.unnecessarySimpa false
set_option maxRecDepth 100000
namespace Go.Proofs.YtbkhielalbbopaaGreatDoor.Wb
open Go.Am

/-- All but j in order; j is least from its place on. -/
def Ins (a i j : Nat) (f : Nat → Mp) : Prop := (∀ x y, a ≤ x → x < y → y ≤ i → x ≠ j → y ≠ j → ¬ lt (f y) (f x)) ∧ (∀ y, j < y → y ≤ i → ¬ lt (f y) (f j))
theorem Ins.out {a i j : Nat} {f : Nat → Mp} (h : Ins a i j f) (hj : j = a ∨ a < j ∧ ¬ lt (f j) (f (j - 1))) : Srt a (i + 1) f := by
  intro x y h1 h2 h3
  by_cases hy : y = j
  · subst hy
    rcases hj with e | ⟨e, hl⟩
    · omega
    · by_cases hx : x = y - 1
      · subst hx; exact hl
      · exact le_tr (h.1 x (y - 1) h1 (by omega) (by omega) (by omega) (by omega)) hl
  · by_cases hx : x = j
    · subst hx; exact h.2 y h2 (by omega)
    · exact h.1 x y h1 h2 (by omega) hx hy
theorem Ins.step {a i j : Nat} {f : Nat → Mp} (h : Ins a i j f) (hj : a < j) (hji : j ≤ i) (hl : lt (f j) (f (j - 1))) : Ins a i (j - 1) (sw f (j - 1) j) := by
  have e1 := sw_x f (j - 1) j
  have e2 := sw_y f (j - 1) j
  have e3 : ∀ k, k ≠ j - 1 → k ≠ j → sw f (j - 1) j k = f k := fun k h1 h2 => sw_o h1 h2
  refine ⟨fun x y h1 h2 h3 h4 h5 => ?_, fun y h1 h2 => ?_⟩
  · by_cases hy : y = j
    · subst hy
      rw [e2, e3 x h4 (by omega)]
      exact h.1 x (y - 1) h1 (by omega) (by omega) (by omega) (by omega)
    · rw [e3 y h5 hy]
      by_cases hx : x = j
      · subst hx
        rw [e2]
        exact h.1 (x - 1) y (by omega) (by omega) h3 (by omega) (by omega)
      · rw [e3 x h4 hx]
        exact h.1 x y h1 h2 h3 hx hy
  · rw [e1]
    by_cases hy : y = j
    · subst hy; rw [e2]; exact lt_as hl
    · rw [e3 y (by omega) hy]; exact h.2 y (by omega) h2
theorem Srt.ins {a i : Nat} {f : Nat → Mp} (h : Srt a i f) : Ins a i i f := ⟨fun x y h1 h2 h3 _ h5 => h x y h1 h2 (by omega), fun y h1 h2 => by omega⟩

theorem ins_ok {n0 m : Nat} (hm : n0 + 1 ≤ m) {v clo : V} {n a b : Nat} {f : Nat → Mp} (hn : n ≤ 1000) (hab : a ≤ b) (hb : b ≤ n) {h : H} {K : V → H → Prop} (hv : D h v n f) (hc : CmpC n0 h (vblk v) clo)
    (hk : ∀ h' g, Bd h' → But h h' (vblk v) → D h' v n g → Prm a b f g → Srt a b g → K (.t []) h') : Ok Tryz.prog m 177 [v, .i .i64 a, .i .i64 b, clo] h K := by
  obtain ⟨m, rfl⟩ := Nat.exists_eq_add_of_le' (show 1 ≤ m by omega)
  refine K177 fun hbd => ?_
  simp (disch := omega) only [F177, ws]
  have main : ∀ (fuel k : Nat) (h' : H) (g : Nat → Mp), b + 1 < fuel + k → a + 1 ≤ k → k ≤ b + 1 → Bd h' → But h h' (vblk v) → D h' v n g → Prm a b f g → Srt a (min k b) g → F177_8 pw xx (Ok Tryz.prog m) K fuel v (.i .i64 (a : Nat)) (.i .i64 (b : Nat)) clo (.i .i64 (k : Nat)) h' := by
    intro fuel
    induction fuel with
    | zero => intro k h' g a1 a2 a3; omega
    | succ fuel ih =>
      intro k h' g a1 a2 a3 hbd' hb' hv' hp hs
      rw [S177_8]
      by_cases hlt : k < b
      · simp (disch := omega) only [ws, dec_t, F177_14]
        rw [Nat.min_eq_left (by omega)] at hs
        have inner : ∀ (f2 j : Nat) (h2 : H) (g : Nat → Mp), j < f2 + a → a ≤ j → j ≤ k → Bd h2 → But h h2 (vblk v) → D h2 v n g → Prm a b f g → Ins a k j g → F177_31 pw xx (Ok Tryz.prog m) K (F177_8 pw xx (Ok Tryz.prog m) K fuel) f2 v (.i .i64 (a : Nat)) (.i .i64 (b : Nat)) clo (.i .i64 (k : Nat)) (.i .i64 (j : Nat)) h2 := by
          intro f2
          induction f2 with
          | zero => intro j h2 g b1 b2; omega
          | succ f2 ih2 =>
            intro j h2 g b1 b2 b3 hbd2 hb2 hv2 hp2 hi
            have out : ∀ h3, Bd h3 → But h h3 (vblk v) → D h3 v n g → Srt a (k + 1) g → F177_20 pw xx (Ok Tryz.prog m) K (F177_8 pw xx (Ok Tryz.prog m) K fuel) v (.i .i64 (a : Nat)) (.i .i64 (b : Nat)) clo (.i .i64 (k : Nat)) h3 := by
              intro h3 hbd3 hb3 hv3 hs3
              simp (disch := omega) only [F177_20, ws]
              rw [show (k : Int) + 1 = ((k + 1 : Nat) : Int) by omega]
              exact ih (k + 1) h3 g (by omega) (by omega) (by omega) hbd3 hb3 hv3 hp2 (by rw [Nat.min_eq_left (by omega)]; exact hs3)
            rw [S177_31]
            by_cases hj : a < j
            · simp (disch := omega) only [ws, dec_t]
              refine d_rd hv2 (i := j) rfl (by omega) ?_
              try simp (disch := omega) only [ws]
              refine d_rd hv2 (i := j - 1) (by omega) (by omega) ?_
              try simp (disch := omega) only [ws]
              refine hc m (by omega) (g j) (g (j - 1)) h2 _ hbd2 hb2 fun h3 z hbd3 hb3 hz => ?_
              have hb03 : But h h3 (vblk v) := hb2.trans (hb3.none _)
              have hv3 := hv2.keep hbd2 hb3
              by_cases hz0 : z < 0
              · simp (disch := omega) only [ws, dec_t hz0, F177_38]
                refine d_sw hv3 (x := j - 1) (y := j) (by omega) rfl (by omega) (by omega) fun h5 hv5 hb5 => ?_
                simp (disch := omega) only [F177_45, ws]
                rw [show (j : Int) - 1 = ((j - 1 : Nat) : Int) by omega]
                exact ih2 (j - 1) h5 _ (by omega) (by omega) (by omega) (hb5.2.2 hbd3) (hb03.trans hb5) hv5 (hp2.trans (Prm.sw g (by omega) (by omega))) (hi.step hj b3 (hz.1 hz0))
              · simp (disch := omega) only [ws, dec_f hz0]
                exact out h3 hbd3 hb03 hv3 (hi.out (.inr ⟨hj, fun e => hz0 (hz.2 e)⟩))
            · simp (disch := omega) only [ws, dec_f]
              exact out h2 hbd2 hb2 hv2 (hi.out (.inl (by omega)))
        exact inner 100000 k h' g (by omega) (by omega) (Nat.le_refl _) hbd' hb' hv' hp hs.ins
      · simp (disch := omega) only [ws, dec_f]
        rw [Nat.min_eq_right (by omega)] at hs
        exact hk h' g hbd' hb' hv' hp hs
  rw [show (a : Int) + 1 = ((a + 1 : Nat) : Int) by omega]
  exact main 100000 (a + 1) h f (by omega) (by omega) (by omega) hbd (But.refl _ _) hv (Prm.refl _ _ _) fun x y h1 h2 h3 => by omega
end Go.Proofs.YtbkhielalbbopaaGreatDoor.Wb
