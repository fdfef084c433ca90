/- Sorting: a partition. -/
import Derived.Test.YtbkhielalbbopaaGreatDoorVo3
set_option linter.unusedSimpArgs false
set_option linter.unusedVariables false
set_option linter.unusedSectionVars false
set_option linter.unnecessarySimpa false
set_option maxRecDepth 100000
namespace Go.Proofs.YtbkhielalbbopaaGreatDoor.Wb
open Go.Am

structure Pt2 (a b i j : Nat) (g : Nat → Mp) : Prop where
  ai : a < i
  ij : i ≤ j + 1
  jb : j < b
  aj : a ≤ j
  lo : ∀ x, a < x → x < i → lt (g x) (g a)
  hi : ∀ x, j < x → x < b → ¬ lt (g x) (g a)
structure Mid (a b m : Nat) (g : Nat → Mp) : Prop where
  am : a ≤ m
  mb : m < b
  lo : ∀ x, a ≤ x → x < m → lt (g x) (g m)
  hi : ∀ x, m < x → x < b → ¬ lt (g x) (g m)

theorem Pt2.fin {a b i j : Nat} {g : Nat → Mp} (p : Pt2 a b i j g) (h : j < i) : Mid a b j (sw g a j) := by
  obtain ⟨h1, h2, h3, h4, lo, hi⟩ := p
  have ea : sw g a j j = g a := sw_y g a j
  have ej : sw g a j a = g j := sw_x g a j
  refine ⟨h4, h3, fun x x1 x2 => ?_, fun x x1 x2 => ?_⟩
  · rw [ea]
    by_cases hx : x = a
    · subst hx; rw [ej]; exact lo j (by omega) (by omega)
    · rw [sw_o hx (by omega)]; exact lo x (by omega) (by omega)
  · rw [ea, sw_o (by omega) (by omega)]; exact hi x x1 x2
theorem Pt2.swap {a b i j : Nat} {g : Nat → Mp} (p : Pt2 a b i j g) (h : i ≤ j) (hi' : ¬ lt (g i) (g a)) (hj' : lt (g j) (g a)) : Pt2 a b (i + 1) (j - 1) (sw g j i) := by
  obtain ⟨h1, h2, h3, h4, lo, hi⟩ := p
  have hne : i ≠ j := fun e => hi' (by rw [e]; exact hj')
  have ea : sw g j i a = g a := sw_o (by omega) (by omega)
  have ei : sw g j i i = g j := sw_y g j i
  have ej : sw g j i j = g i := sw_x g j i
  refine ⟨by omega, by omega, by omega, by omega, fun x x1 x2 => ?_, fun x x1 x2 => ?_⟩
  · rw [ea]
    by_cases hx : x = i
    · subst hx; rw [ei]; exact hj'
    · rw [sw_o (by omega) hx]; exact lo x x1 (by omega)
  · rw [ea]
    by_cases hx : x = j
    · subst hx; rw [ej]; exact hi'
    · rw [sw_o hx (by omega)]; exact hi x (by omega) x2
theorem Pt2.up {a b i j : Nat} {g : Nat → Mp} (p : Pt2 a b i j g) (h : i ≤ j) (h' : lt (g i) (g a)) : Pt2 a b (i + 1) j g := by
  obtain ⟨h1, h2, h3, h4, lo, hi⟩ := p
  refine ⟨by omega, by omega, h3, h4, fun x x1 x2 => ?_, hi⟩
  by_cases hx : x = i
  · subst hx; exact h'
  · exact lo x x1 (by omega)
theorem Pt2.dn {a b i j : Nat} {g : Nat → Mp} (p : Pt2 a b i j g) (h : i ≤ j) (h' : ¬ lt (g j) (g a)) : Pt2 a b i (j - 1) g := by
  obtain ⟨h1, h2, h3, h4, lo, hi⟩ := p
  refine ⟨h1, by omega, by omega, by omega, lo, fun x x1 x2 => ?_⟩
  by_cases hx : x = j
  · subst hx; exact h'
  · exact hi x (by omega) x2

set_option maxHeartbeats 4000000 in
theorem part_ok {n0 m : Nat} (hm : n0 + 1 ≤ m) {v clo : V} {n a b pv : Nat} {f : Nat → Mp} (hn : n ≤ 1000) (hab : a + 2 ≤ b) (hp1 : a ≤ pv) (hp2 : pv < b) (hb : b ≤ n) {h : H} {K : V → H → Prop} (hv : D h v n f) (hc : CmpC n0 h (vblk v) clo)
    (hk : ∀ h' g mid (t : Bool), Bd h' → But h h' (vblk v) → D h' v n g → Prm a b f g → Mid a b mid g → K (.t [.i .i64 (mid : Nat), .b t]) h') : Ok Tryz.prog m 184 [v, .i .i64 a, .i .i64 b, .i .i64 pv, clo] h K := by
  obtain ⟨m, rfl⟩ := Nat.exists_eq_add_of_le' (show 1 ≤ m by omega)
  refine K184 fun hbd => ?_
  unfold F184
  refine d_sw hv (x := pv) (y := a) rfl rfl (by omega) (by omega) fun h1 hv1 f1 => ?_
  have hbd1 := f1.2.2 hbd
  have p1 : Prm a b f (sw f pv a) := Prm.sw f (by omega) (by omega)
  generalize sw f pv a = g1 at hv1 p1
  simp (disch := omega) only [ws]
  -- what ends it
  have fin0 : ∀ (i j : Nat) (h' : H) (g : Nat → Mp), j < i → Bd h' → But h h' (vblk v) → D h' v n g → Prm a b f g → Pt2 a b i j g → F184_70 pw xx (Ok Tryz.prog m) K v (.i .i64 (a : Nat)) (.i .i64 (j : Nat)) h' := by
    intro i j h' g hji hbd' hb' hv' hp hpt
    unfold F184_70
    have hjb := hpt.jb
    have haj := hpt.aj
    refine d_sw hv' (x := a) (y := j) rfl rfl (by omega) (by omega) fun h2 hv2 f2 => ?_
    exact hk h2 _ j false (f2.2.2 hbd') (hb'.trans f2) hv2 (hp.trans (Prm.sw g (by omega) (by omega))) (hpt.fin hji)
  -- the loops' later rounds
  have loop : ∀ (fuel i j : Nat) (h' : H) (g : Nat → Mp), j + 2 < fuel + i → Bd h' → But h h' (vblk v) → D h' v n g → Prm a b f g → Pt2 a b i j g → F184_93 pw xx (Ok Tryz.prog m) K fuel v (.i .i64 (a : Nat)) clo (.i .i64 (i : Nat)) (.i .i64 (j : Nat)) h' := by
    intro fuel
    induction fuel with
    | zero => intro i j h' g a1 _ _ _ _ hpt; have := hpt.ij; omega
    | succ fuel ih =>
      intro i j h' g a1 hbd' hb' hv' hp hpt
      rw [S184_93]
      have jl : ∀ (fu i' j' : Nat) (h' : H), j' < fu → j' + 2 < fuel + 1 + i' → Bd h' → But h h' (vblk v) → D h' v n g → Pt2 a b i' j' g → (i' ≤ j' → ¬ lt (g i') (g a)) → F184_142 pw xx (Ok Tryz.prog m) K (F184_93 pw xx (Ok Tryz.prog m) K fuel) fu v (.i .i64 (a : Nat)) clo (.i .i64 (i' : Nat)) (.i .i64 (j' : Nat)) h' := by
        intro fu
        induction fu with
        | zero => intro i' j' h' b1; omega
        | succ fu ihj =>
          intro i' j' h' b1 b2 hbd' hb' hv' hpt hni
          rw [S184_142]
          have hjb := hpt.jb
          have haj := hpt.aj
          have hai := hpt.ai
          by_cases hij : i' ≤ j'
          · simp (disch := omega) only [ws, dec_t]
            refine d_rd hv' (i := j') rfl (by omega) ?_
            try simp (disch := omega) only [ws]
            refine d_rd hv' (i := a) rfl (by omega) ?_
            try simp (disch := omega) only [ws]
            refine hc m (by omega) (g j') (g a) h' _ hbd' hb' fun h3 z hbd3 hb3 hz => ?_
            have hb03 : But h h3 (vblk v) := hb'.trans (hb3.none _)
            have hv3 := hv'.keep hbd' hb3
            by_cases hz0 : z < 0
            · simp (disch := omega) only [ws, dec_t hz0, Bool.not_true, F184_105, dec_f, F184_111]
              refine d_sw hv3 (x := j') (y := i') rfl rfl (by omega) (by omega) fun h5 hv5 hb5 => ?_
              try simp (disch := omega) only [ws]
              rw [show (i' : Int) + 1 = ((i' + 1 : Nat) : Int) by omega, show (j' : Int) - 1 = ((j' - 1 : Nat) : Int) by omega]
              exact ih (i' + 1) (j' - 1) h5 _ (by omega) (hb5.2.2 hbd3) (hb03.trans hb5) hv5 (hp.trans (Prm.sw g (by omega) (by omega))) (hpt.swap hij (hni hij) (hz.1 hz0))
            · simp (disch := omega) only [ws, dec_f hz0, Bool.not_false, F184_148]
              rw [show (j' : Int) - 1 = ((j' - 1 : Nat) : Int) by omega]
              exact ihj i' (j' - 1) h3 (by omega) (by omega) hbd3 hb03 hv3 (hpt.dn hij fun e => hz0 (hz.2 e)) fun e => hni hij
          · simp (disch := omega) only [ws, dec_f, F184_105, dec_t]
            exact fin0 i' j' h' g (by omega) hbd' hb' hv' hp hpt
      have il : ∀ (fu i' : Nat) (h' : H), j + 2 < fu + i' → i ≤ i' → Bd h' → But h h' (vblk v) → D h' v n g → Pt2 a b i' j g → F184_186 pw xx (Ok Tryz.prog m) K (F184_93 pw xx (Ok Tryz.prog m) K fuel) fu v (.i .i64 (a : Nat)) clo (.i .i64 (i' : Nat)) (.i .i64 (j : Nat)) h' := by
        intro fu
        induction fu with
        | zero => intro i' h' b1 _ _ _ _ hpt; have := hpt.ij; omega
        | succ fu ihi =>
          intro i' h' b1 b2 hbd' hb' hv' hpt
          rw [S184_186]
          have hjb := hpt.jb
          have haj := hpt.aj
          have hai := hpt.ai
          have hij0 := hpt.ij
          by_cases hij : i' ≤ j
          · simp (disch := omega) only [ws, dec_t]
            refine d_rd hv' (i := i') rfl (by omega) ?_
            try simp (disch := omega) only [ws]
            refine d_rd hv' (i := a) rfl (by omega) ?_
            try simp (disch := omega) only [ws]
            refine hc m (by omega) (g i') (g a) h' _ hbd' hb' fun h3 z hbd3 hb3 hz => ?_
            have hb03 : But h h3 (vblk v) := hb'.trans (hb3.none _)
            have hv3 := hv'.keep hbd' hb3
            by_cases hz0 : z < 0
            · simp (disch := omega) only [ws, dec_t hz0, F184_192]
              rw [show (i' : Int) + 1 = ((i' + 1 : Nat) : Int) by omega]
              exact ihi (i' + 1) h3 (by omega) (by omega) hbd3 hb03 hv3 (hpt.up hij (hz.1 hz0))
            · simp (disch := omega) only [ws, dec_f hz0, F184_99]
              exact jl 100000 i' j h3 (by omega) (by omega) hbd3 hb03 hv3 hpt fun _ e => hz0 (hz.2 e)
          · simp (disch := omega) only [ws, dec_f, F184_99]
            exact jl 100000 i' j h' (by omega) (by omega) hbd' hb' hv' hpt fun e => absurd e hij
      have h3 := hpt.ij
      have h4 := hpt.jb
      exact il 100000 i h' (by omega) (Nat.le_refl _) hbd' hb' hv' hpt
  -- the first round
  have jl0 : ∀ (fu i' j' : Nat) (h' : H), j' < fu → Bd h' → But h h' (vblk v) → D h' v n g1 → Pt2 a b i' j' g1 → (i' ≤ j' → ¬ lt (g1 i') (g1 a)) → F184_250 pw xx (Ok Tryz.prog m) K fu v (.i .i64 (a : Nat)) clo (.i .i64 (i' : Nat)) (.i .i64 (j' : Nat)) h' := by
    intro fu
    induction fu with
    | zero => intro i' j' h' b1; omega
    | succ fu ihj =>
      intro i' j' h' b1 hbd' hb' hv' hpt hni
      rw [S184_250]
      have hjb := hpt.jb
      have haj := hpt.aj
      have hai := hpt.ai
      by_cases hij : i' ≤ j'
      · simp (disch := omega) only [ws, dec_t]
        refine d_rd hv' (i := j') rfl (by omega) ?_
        try simp (disch := omega) only [ws]
        refine d_rd hv' (i := a) rfl (by omega) ?_
        try simp (disch := omega) only [ws]
        refine hc m (by omega) (g1 j') (g1 a) h' _ hbd' hb' fun h3 z hbd3 hb3 hz => ?_
        have hb03 : But h h3 (vblk v) := hb'.trans (hb3.none _)
        have hv3 := hv'.keep hbd' hb3
        by_cases hz0 : z < 0
        · simp (disch := omega) only [ws, dec_t hz0, Bool.not_true, F184_36, dec_f, F184_42]
          refine d_sw hv3 (x := j') (y := i') rfl rfl (by omega) (by omega) fun h5 hv5 hb5 => ?_
          try simp (disch := omega) only [ws]
          rw [show (i' : Int) + 1 = ((i' + 1 : Nat) : Int) by omega, show (j' : Int) - 1 = ((j' - 1 : Nat) : Int) by omega]
          exact loop 100000 (i' + 1) (j' - 1) h5 _ (by omega) (hb5.2.2 hbd3) (hb03.trans hb5) hv5 (p1.trans (Prm.sw g1 (by omega) (by omega))) (hpt.swap hij (hni hij) (hz.1 hz0))
        · simp (disch := omega) only [ws, dec_f hz0, Bool.not_false, F184_256]
          rw [show (j' : Int) - 1 = ((j' - 1 : Nat) : Int) by omega]
          exact ihj i' (j' - 1) h3 (by omega) hbd3 hb03 hv3 (hpt.dn hij fun e => hz0 (hz.2 e)) fun e => hni hij
      · simp (disch := omega) only [ws, dec_f, F184_36, dec_t]
        refine d_sw hv' (x := a) (y := j') rfl rfl (by omega) (by omega) fun h2 hv2 f2 => ?_
        exact hk h2 _ j' true (f2.2.2 hbd') (hb'.trans f2) hv2 (p1.trans (Prm.sw g1 (by omega) (by omega))) (hpt.fin (by omega))
  have il0 : ∀ (fu i' : Nat) (h' : H), b < fu + i' → Bd h' → But h h' (vblk v) → D h' v n g1 → Pt2 a b i' (b - 1) g1 → F184_294 pw xx (Ok Tryz.prog m) K fu v (.i .i64 (a : Nat)) clo (.i .i64 (i' : Nat)) (.i .i64 ((b - 1 : Nat) : Int)) h' := by
    intro fu
    induction fu with
    | zero => intro i' h' b1 _ _ _ hpt; have := hpt.ij; omega
    | succ fu ihi =>
      intro i' h' b1 hbd' hb' hv' hpt
      rw [S184_294]
      have hai := hpt.ai
      have hij0 := hpt.ij
      by_cases hij : i' ≤ b - 1
      · simp (disch := omega) only [ws, dec_t]
        refine d_rd hv' (i := i') rfl (by omega) ?_
        try simp (disch := omega) only [ws]
        refine d_rd hv' (i := a) rfl (by omega) ?_
        try simp (disch := omega) only [ws]
        refine hc m (by omega) (g1 i') (g1 a) h' _ hbd' hb' fun h3 z hbd3 hb3 hz => ?_
        have hb03 : But h h3 (vblk v) := hb'.trans (hb3.none _)
        have hv3 := hv'.keep hbd' hb3
        by_cases hz0 : z < 0
        · simp (disch := omega) only [ws, dec_t hz0, F184_300]
          rw [show (i' : Int) + 1 = ((i' + 1 : Nat) : Int) by omega]
          exact ihi (i' + 1) h3 (by omega) hbd3 hb03 hv3 (hpt.up hij (hz.1 hz0))
        · simp (disch := omega) only [ws, dec_f hz0, F184_30]
          exact jl0 100000 i' (b - 1) h3 (by omega) hbd3 hb03 hv3 hpt fun _ e => hz0 (hz.2 e)
      · simp (disch := omega) only [ws, dec_f, F184_30]
        exact jl0 100000 i' (b - 1) h' (by omega) hbd' hb' hv' hpt fun e => absurd e hij
  rw [show (a : Int) + 1 = ((a + 1 : Nat) : Int) by omega, show (b : Int) - 1 = ((b - 1 : Nat) : Int) by omega]
  exact il0 100000 (a + 1) h1 (by omega) hbd1 f1 hv1 ⟨by omega, by omega, by omega, by omega, fun x x1 x2 => by omega, fun x x1 x2 => by omega⟩
end Go.Proofs.YtbkhielalbbopaaGreatDoor.Wb
