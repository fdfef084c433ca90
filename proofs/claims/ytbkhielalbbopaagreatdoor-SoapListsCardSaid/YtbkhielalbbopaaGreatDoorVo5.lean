/- Sorting: by a heap. -/
import Derived.Test.YtbkhielalbbopaaGreatDoorVo4
set_option linter.unusedSimpArgs false
set_option linter.unusedVariables false
set_option linter.unusedSectionVars false
set_option linter.unnecessarySimpa false
set_option maxRecDepth 100000
namespace Go.Proofs.YtbkhielalbbopaaGreatDoor.Wb
open Go.Am

/-- No child is greater. -/
def Hp (a hi : Nat) (f : Nat → Mp) (i : Nat) : Prop := ∀ c, (c = 2 * i + 1 ∨ c = 2 * i + 2) → c < hi → ¬ lt (f (a + i)) (f (a + c))
structure Sft (a lo hi r : Nat) (f : Nat → Mp) : Prop where
  lr : lo ≤ r
  hp : ∀ i, lo ≤ i → i < hi → i ≠ r → Hp a hi f i
  up : ∀ i, lo ≤ i → (r = 2 * i + 1 ∨ r = 2 * i + 2) → ∀ c, (c = 2 * r + 1 ∨ c = 2 * r + 2) → c < hi → ¬ lt (f (a + i)) (f (a + c))
theorem Sft.step {a lo hi r c : Nat} {f : Nat → Mp} (s : Sft a lo hi r f) (hc : c = 2 * r + 1 ∨ c = 2 * r + 2) (hch : c < hi) (hmx : ∀ d, (d = 2 * r + 1 ∨ d = 2 * r + 2) → d < hi → ¬ lt (f (a + c)) (f (a + d))) (hl : lt (f (a + r)) (f (a + c))) : Sft a lo hi c (sw f (a + c) (a + r)) := by
  obtain ⟨h1, h2, h3⟩ := s
  have ec : sw f (a + c) (a + r) (a + c) = f (a + r) := sw_x f _ _
  have er : sw f (a + c) (a + r) (a + r) = f (a + c) := sw_y f _ _
  have eo : ∀ k, k ≠ c → k ≠ r → sw f (a + c) (a + r) (a + k) = f (a + k) := fun k h4 h5 => sw_o (by omega) (by omega)
  refine ⟨by omega, fun i i1 i2 i3 d d1 d2 => ?_, fun i i1 i2 d d1 d2 => ?_⟩
  · by_cases hi' : i = r
    · subst hi'
      rw [er]
      by_cases hd : d = c
      · subst hd; rw [ec]; exact lt_as hl
      · rw [eo d hd (by omega)]; exact hmx d d1 d2
    · rw [eo i i3 hi']
      by_cases hd : d = r
      · subst hd; rw [er]; exact h3 i i1 d1 c hc hch
      · have hdc : d ≠ c := by omega
        rw [eo d hdc hd]
        exact h2 i i1 i2 hi' d d1 d2
  · have hi' : i = r := by omega
    subst hi'
    rw [er, eo d (by omega) (by omega)]
    exact h2 c (by omega) hch (by omega) d d1 d2

set_option maxHeartbeats 4000000 in
theorem sift_ok {n0 m : Nat} (hm : n0 + 1 ≤ m) {v clo : V} {n a lo hi : Nat} {f : Nat → Mp} (hn : n ≤ 1000) (hl : lo ≤ 1000) (hb : a + hi ≤ n) {h : H} {K : V → H → Prop} (hv : D h v n f) (hc : CmpC n0 h (vblk v) clo) (hp : ∀ i, lo < i → i < hi → Hp a hi f i)
    (hk : ∀ h' g, Bd h' → But h h' (vblk v) → D h' v n g → Prm a (a + hi) f g → (∀ i, lo ≤ i → i < hi → Hp a hi g i) → K (.t []) h') : Ok Tryz.prog m 193 [v, .i .i64 lo, .i .i64 hi, .i .i64 a, clo] h K := by
  obtain ⟨m, rfl⟩ := Nat.exists_eq_add_of_le' (show 1 ≤ m by omega)
  refine K193 fun hbd => ?_
  unfold F193
  have main : ∀ (fuel r : Nat) (h' : H) (g : Nat → Mp), hi < fuel + r → r ≤ 1000 → 0 < fuel → Bd h' → But h h' (vblk v) → D h' v n g → Prm a (a + hi) f g → Sft a lo hi r g → F193_8 pw xx (Ok Tryz.prog m) K fuel v (.i .i64 (hi : Nat)) (.i .i64 (a : Nat)) clo (.i .i64 (r : Nat)) h' := by
    intro fuel
    induction fuel with
    | zero => intro r h' g a1 a2 a3; omega
    | succ fuel ih =>
      intro r h' g a1 a2 _ hbd' hb' hv' hp' hs
      rw [S193_8]
      by_cases hch : hi ≤ 2 * r + 1
      · simp (disch := omega) only [ws, dec_t]
        refine hk h' g hbd' hb' hv' hp' fun i i1 i2 => ?_
        by_cases hir : i = r
        · subst hir
          intro c c1 c2
          omega
        · exact hs.hp i i1 i2 hir
      · simp (disch := omega) only [ws, dec_f, F193_18]
        have nxt : ∀ (c : Nat) (h' : H), Bd h' → But h h' (vblk v) → D h' v n g → (c = 2 * r + 1 ∨ c = 2 * r + 2) → c < hi → (∀ d, (d = 2 * r + 1 ∨ d = 2 * r + 2) → d < hi → ¬ lt (g (a + c)) (g (a + d))) →
            F193_25 pw xx (Ok Tryz.prog m) K (F193_8 pw xx (Ok Tryz.prog m) K fuel) v (.i .i64 (hi : Nat)) (.i .i64 (a : Nat)) clo (.i .i64 (r : Nat)) (.i .i64 (c : Nat)) h' := by
          intro c h' hbd' hb' hv' c1 c2 c3
          unfold F193_25
          simp (disch := omega) only [ws]
          refine d_rd hv' (i := a + r) (by omega) (by omega) ?_
          try simp (disch := omega) only [ws]
          refine d_rd hv' (i := a + c) (by omega) (by omega) ?_
          try simp (disch := omega) only [ws]
          refine hc m (by omega) (g (a + r)) (g (a + c)) h' _ hbd' hb' fun h3 z hbd3 hb3 hz => ?_
          have hb03 : But h h3 (vblk v) := hb'.trans (hb3.none _)
          have hv3 := hv'.keep hbd' hb3
          by_cases hz0 : z < 0
          · simp (disch := omega) only [ws, dec_t hz0, Bool.not_true, F193_32]
            refine d_sw hv3 (x := a + c) (y := a + r) (by omega) (by omega) (by omega) (by omega) fun h5 hv5 hb5 => ?_
            exact ih c h5 _ (by omega) (by omega) (by omega) (hb5.2.2 hbd3) (hb03.trans hb5) hv5 (hp'.trans (Prm.sw g (by omega) (by omega))) (hs.step c1 c2 c3 (hz.1 hz0))
          · simp (disch := omega) only [ws, dec_f hz0, Bool.not_false]
            refine hk h3 g hbd3 hb03 hv3 hp' fun i i1 i2 => ?_
            by_cases hir : i = r
            · subst hir
              intro d d1 d2
              exact le_tr (c3 d d1 d2) fun e => hz0 (hz.2 e)
            · exact hs.hp i i1 i2 hir
        rw [show (2 : Int) * (r : Int) + 1 = ((2 * r + 1 : Nat) : Int) by omega]
        by_cases hc2 : 2 * r + 2 < hi
        · simp (disch := omega) only [ws, dec_t]
          refine d_rd hv' (i := a + (2 * r + 1)) (by omega) (by omega) ?_
          try simp (disch := omega) only [ws]
          refine d_rd hv' (i := a + (2 * r + 2)) (by omega) (by omega) ?_
          try simp (disch := omega) only [ws]
          refine hc m (by omega) (g (a + (2 * r + 1))) (g (a + (2 * r + 2))) h' _ hbd' hb' fun h3 z hbd3 hb3 hz => ?_
          have hb03 : But h h3 (vblk v) := hb'.trans (hb3.none _)
          have hv3 := hv'.keep hbd' hb3
          by_cases hz0 : z < 0
          · simp (disch := omega) only [ws, dec_t hz0]
            rw [show ((2 * r + 1 : Nat) : Int) + 1 = ((2 * r + 2 : Nat) : Int) by omega]
            refine nxt (2 * r + 2) h3 hbd3 hb03 hv3 (.inr rfl) hc2 fun d d1 d2 => ?_
            rcases d1 with e | e
            · rw [e]; exact lt_as (hz.1 hz0)
            · rw [e]; exact lt_irr _
          · simp (disch := omega) only [ws, dec_f hz0]
            refine nxt (2 * r + 1) h3 hbd3 hb03 hv3 (.inl rfl) (by omega) fun d d1 d2 => ?_
            rcases d1 with e | e
            · rw [e]; exact lt_irr _
            · rw [e]; exact fun e => hz0 (hz.2 e)
        · simp (disch := omega) only [ws, dec_f]
          refine nxt (2 * r + 1) h' hbd' hb' hv' (.inl rfl) (by omega) fun d d1 d2 => ?_
          have e : d = 2 * r + 1 := by omega
          rw [e]; exact lt_irr _
  exact main 100000 lo h f (by omega) hl (by omega) hbd (But.refl _ _) hv (Prm.refl _ _ _) ⟨Nat.le_refl _, fun i i1 i2 i3 => hp i (by omega) i2, fun i i1 i2 => by omega⟩

theorem top_max {a k : Nat} {f : Nat → Mp} (h : ∀ i, i < k → Hp a k f i) : ∀ x, x < k → ¬ lt (f a) (f (a + x)) := by
  intro x
  induction x using Nat.strongRecOn with
  | _ x ih =>
    intro hx
    by_cases h0 : x = 0
    · subst h0; exact lt_irr _
    · have h1 := ih ((x - 1) / 2) (by omega) (by omega)
      have h2 := h ((x - 1) / 2) (by omega) x (by omega) hx
      exact le_tr h2 h1

set_option maxHeartbeats 4000000 in
theorem heap_ok {n0 m : Nat} (hm : n0 + 2 ≤ m) {v clo : V} {n a b : Nat} {f : Nat → Mp} (hn : n ≤ 1000) (hab : a < b) (hb : b ≤ n) {h : H} {K : V → H → Prop} (hv : D h v n f) (hc : CmpC n0 h (vblk v) clo)
    (hk : ∀ h' g, Bd h' → But h h' (vblk v) → D h' v n g → Prm a b f g → Srt a b g → K (.t []) h') : Ok Tryz.prog m 178 [v, .i .i64 a, .i .i64 b, clo] h K := by
  obtain ⟨m, rfl⟩ := Nat.exists_eq_add_of_le' (show 1 ≤ m by omega)
  refine K178 fun hbd => ?_
  obtain ⟨hi, rfl⟩ : ∃ hi, b = a + hi := ⟨b - a, by omega⟩
  have pop : ∀ (fuel k : Nat) (h' : H) (g : Nat → Mp), k < fuel → k ≤ hi → Bd h' → But h h' (vblk v) → D h' v n g → Prm a (a + hi) f g → (∀ i, i < k → Hp a k g i) → Srt (a + k) (a + hi) g → (∀ x y, x < k → k ≤ y → y < hi → ¬ lt (g (a + y)) (g (a + x))) →
      F178_21 pw xx (Ok Tryz.prog m) K fuel v clo (.i .i64 (a : Nat)) (.i .i64 0) (.i .i64 ((k : Int) - 1)) h' := by
    intro fuel
    induction fuel with
    | zero => intro k h' g a1; omega
    | succ fuel ih =>
      intro k h' g a1 a2 hbd' hb' hv' hp hh hs hx
      rw [S178_21]
      by_cases hk0 : k = 0
      · subst hk0
        simp (disch := omega) only [ws, dec_f]
        exact hk h' g hbd' hb' hv' hp hs
      · simp (disch := omega) only [ws, dec_t, F178_27]
        refine d_sw hv' (x := a + (k - 1)) (y := a) (by omega) rfl (by omega) (by omega) fun h2 hv2 f2 => ?_
        try simp (disch := omega) only [ws]
        have hbd2 := f2.2.2 hbd'
        have hb02 := hb'.trans f2
        have hmx := top_max hh
        have e1 : sw g (a + (k - 1)) a (a + (k - 1)) = g a := sw_x g _ _
        have e2 : sw g (a + (k - 1)) a a = g (a + (k - 1)) := sw_y g _ _
        have e3 : ∀ x, x ≠ k - 1 → x ≠ 0 → sw g (a + (k - 1)) a (a + x) = g (a + x) := fun x h1 h2 => sw_o (by omega) (by omega)
        have hp2 : Prm a (a + hi) f (sw g (a + (k - 1)) a) := hp.trans (Prm.sw g (by omega) (by omega))
        have s2 : Srt (a + (k - 1)) (a + hi) (sw g (a + (k - 1)) a) := by
          intro x y h1 h2 h3
          obtain ⟨y, rfl⟩ : ∃ y', y = a + y' := ⟨y - a, by omega⟩
          obtain ⟨x, rfl⟩ : ∃ x', x = a + x' := ⟨x - a, by omega⟩
          rw [e3 y (by omega) (by omega)]
          by_cases hx1 : x = k - 1
          · subst hx1; rw [e1]; exact hx 0 y (by omega) (by omega) (by omega)
          · rw [e3 x hx1 (by omega)]; exact hs (a + x) (a + y) (by omega) h2 h3
        have x2 : ∀ x y, x < k - 1 → k - 1 ≤ y → y < hi → ¬ lt (sw g (a + (k - 1)) a (a + y)) (sw g (a + (k - 1)) a (a + x)) := by
          intro x y h1 h2 h3
          have hxv : ∃ x', x' < k ∧ sw g (a + (k - 1)) a (a + x) = g (a + x') := by
            by_cases hx0 : x = 0
            · subst hx0; exact ⟨k - 1, by omega, e2⟩
            · exact ⟨x, by omega, e3 x (by omega) hx0⟩
          obtain ⟨x', hx', ex⟩ := hxv
          rw [ex]
          by_cases hy : y = k - 1
          · subst hy; rw [e1]; exact hmx x' hx'
          · rw [e3 y hy (by omega)]; exact hx x' y hx' (by omega) h3
        have hh2 : ∀ i, 0 < i → i < k - 1 → Hp a (k - 1) (sw g (a + (k - 1)) a) i := by
          intro i i1 i2 c c1 c2
          rw [e3 i (by omega) (by omega), e3 c (by omega) (by omega)]
          exact hh i (by omega) c c1 (by omega)
        generalize sw g (a + (k - 1)) a = g2 at hv2 hp2 s2 x2 hh2
        rw [show (k : Int) - 1 = ((k - 1 : Nat) : Int) by omega]
        refine sift_ok (lo := 0) (hi := k - 1) (n0 := n0) (by omega) hn (by omega) (by omega) hv2 (hc.later hb02) hh2 fun h3 g3 hbd3 f3 hv3 hp3 hh3 => ?_
        simp (disch := omega) only [F178_33, ws]
        refine ih (k - 1) h3 g3 (by omega) (by omega) hbd3 (hb02.trans f3) hv3 (hp2.trans (hp3.wide (Nat.le_refl _) (by omega))) (fun i i1 => hh3 i (by omega) i1) ?_ ?_
        · intro x y h1 h2 h3
          rw [hp3.out (by omega), hp3.out (by omega)]
          exact s2 x y h1 h2 h3
        · intro x y h1 h2 h3
          rw [hp3.out (x := a + y) (by omega)]
          obtain ⟨x', hx', ex⟩ := hp3.mem (x := a + x) (by omega)
          rw [ex]
          obtain ⟨x', rfl⟩ : ∃ z, x' = a + z := ⟨x' - a, by omega⟩
          exact x2 x' y (by omega) h2 h3
  have bld : ∀ (fuel k : Nat) (h' : H) (g : Nat → Mp), k < fuel → k ≤ hi → Bd h' → But h h' (vblk v) → D h' v n g → Prm a (a + hi) f g → (∀ i, k ≤ i → i < hi → Hp a hi g i) →
      F178_74 pw xx (Ok Tryz.prog m) K fuel v clo (.i .i64 (a : Nat)) (.i .i64 0) (.i .i64 (hi : Nat)) (.i .i64 ((k : Int) - 1)) h' := by
    intro fuel
    induction fuel with
    | zero => intro k h' g a1; omega
    | succ fuel ih =>
      intro k h' g a1 a2 hbd' hb' hv' hp hh
      rw [S178_74]
      by_cases hk0 : k = 0
      · subst hk0
        simp (disch := omega) only [ws, dec_f, F178_12]
        exact pop 100000 hi h' g (by omega) (Nat.le_refl _) hbd' hb' hv' hp (fun i hi' => hh i (by omega) hi') (fun x y h1 h2 h3 => by omega) fun x y h1 h2 h3 => by omega
      · simp (disch := omega) only [ws, dec_t, F178_81]
        rw [show (k : Int) - 1 = ((k - 1 : Nat) : Int) by omega]
        refine sift_ok (lo := k - 1) (hi := hi) (n0 := n0) (by omega) hn (by omega) (by omega) hv' (hc.later hb') (fun i i1 i2 => hh i (by omega) i2) fun h3 g3 hbd3 f3 hv3 hp3 hh3 => ?_
        simp (disch := omega) only [F178_88, ws]
        exact ih (k - 1) h3 g3 (by omega) (by omega) hbd3 (hb'.trans f3) hv3 (hp.trans hp3) hh3
  simp (disch := omega) only [F178, ws]
  rw [show ((a + hi : Nat) : Int) - (a : Int) = ((hi : Nat) : Int) by omega, show ((hi : Int) - 1) / 2 = (((hi - 1) / 2 + 1 : Nat) : Int) - 1 by omega]
  exact bld 100000 ((hi - 1) / 2 + 1) h f (by omega) (by omega) hbd (But.refl _ _) hv (Prm.refl _ _ _) fun i i1 i2 c c1 c2 => by omega
end Go.Proofs.YtbkhielalbbopaaGreatDoor.Wb
