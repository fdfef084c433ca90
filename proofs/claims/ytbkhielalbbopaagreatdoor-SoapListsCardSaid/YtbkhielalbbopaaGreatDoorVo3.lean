/- Sorting: a pivot, a reverse, a look. -/
import Derived.Test.YtbkhielalbbopaaGreatDoorVo2
set_option linter.unusedSimpArgs false
set_option linter.unusedVariables false
set_option linter.unusedSectionVars false
set_option linter.unnecessarySimpa false
set_option maxRecDepth 100000
namespace Go.Proofs.YtbkhielalbbopaaGreatDoor.Wb
open Go.Am

theorem D.frame {h h' : H} {v : V} {n : Nat} {f : Nat → Mp} {r : Option Nat} (hv : D h v n f) (hd : Bd h) (hk : But h h' r) (hr : vblk v ≠ r) : D h' v n f := VecE.keep hv (VecE.lt hv hd) hk (.inl hr)

theorem ord2_ok {n0 m : Nat} (hm : n0 + 1 ≤ m) {v clo : V} {n a b r : Nat} {s : Int} {ty : TypeId} {f : Nat → Mp} (hs : 0 ≤ s ∧ s ≤ 1000) (ha : a < n) (hb : b < n) {h : H} {K : V → H → Prop} (hv : D h v n f) (hc : CmpC n0 h (some r) clo) (hr : vblk v ≠ some r) (hg : h.mem.get r = some (.c [.i .i64 s] ty true))
    (hk : ∀ h' x y s', Bd h' → But h h' (some r) → h'.mem.get r = some (.c [.i .i64 s'] ty true) → s ≤ s' ∧ s' ≤ s + 1 → (x = a ∧ y = b ∨ x = b ∧ y = a) → K (.t [.i .i64 (x : Nat), .i .i64 (y : Nat)]) h') :
    Ok Tryz.prog m 198 [v, .i .i64 a, .i .i64 b, .p r 0, clo] h K := by
  obtain ⟨m, rfl⟩ := Nat.exists_eq_add_of_le' (show 1 ≤ m by omega)
  refine Ok.bd (K198 fun hbd => ?_)
  unfold F198
  refine d_rd hv (i := b) rfl hb ?_
  refine d_rd hv (i := a) rfl ha ?_
  refine hc m (by omega) (f b) (f a) h _ hbd (But.refl _ _) fun h1 z hbd1 f1 hz => ?_
  have hlt := hbd _ _ hg
  have g1 := f1.get hlt (by simp) hg
  by_cases hz0 : z < 0
  · simp (disch := omega) only [ws, dec_t hz0]
    rw [l1_a g1 rfl, ad_64 (by omega)]
    refine s1_a g1 (by simp) rfl fun h2 g2 f2 => ?_
    exact fun hb' => hk h2 b a (s + 1) hb' ((f1.none _).trans f2) g2 (by omega) (.inr ⟨rfl, rfl⟩)
  · simp (disch := omega) only [ws, dec_f hz0, F198_8]
    exact fun hb' => hk h1 a b s hb' (f1.none _) g1 (by omega) (.inl ⟨rfl, rfl⟩)

theorem med_ok {n0 m : Nat} (hm : n0 + 2 ≤ m) {v clo : V} {n a b c r : Nat} {s : Int} {ty : TypeId} {f : Nat → Mp} (hs : 0 ≤ s ∧ s ≤ 900) (ha : a < n) (hb : b < n) (hcn : c < n) {h : H} {K : V → H → Prop} (hv : D h v n f) (hc : CmpC n0 h (some r) clo) (hr : vblk v ≠ some r) (hg : h.mem.get r = some (.c [.i .i64 s] ty true))
    (hk : ∀ h' x s', Bd h' → But h h' (some r) → h'.mem.get r = some (.c [.i .i64 s'] ty true) → s ≤ s' ∧ s' ≤ s + 3 → (x = a ∨ x = b ∨ x = c) → K (.i .i64 (x : Nat)) h') :
    Ok Tryz.prog m 197 [v, .i .i64 a, .i .i64 b, .i .i64 c, .p r 0, clo] h K := by
  obtain ⟨m, rfl⟩ := Nat.exists_eq_add_of_le' (show 1 ≤ m by omega)
  refine Ok.bd (K197 fun hbd => ?_)
  unfold F197
  rw [cf_k]
  refine ord2_ok (by omega) (by omega) ha hb hv hc hr hg fun h1 x1 y1 s1 hbd1 f1 g1 hs1 hx1 => ?_
  simp only [ex_t, List.getElem?_cons_zero, List.getElem?_cons_succ, oP_some, cf_k]
  refine ord2_ok (by omega) (by omega) (by omega) hcn (hv.frame hbd f1 hr) (hc.later f1) hr g1 fun h2 x2 y2 s2 hbd2 f2 g2 hs2 hx2 => ?_
  simp only [ex_t, List.getElem?_cons_zero, List.getElem?_cons_succ, oP_some, cf_k]
  have f12 := f1.trans f2
  refine ord2_ok (by omega) (by omega) (by omega) (by omega) (hv.frame hbd f12 hr) (hc.later f12) hr g2 fun h3 x3 y3 s3 hbd3 f3 g3 hs3 hx3 => ?_
  simp only [ex_t, List.getElem?_cons_zero, List.getElem?_cons_succ, oP_some, cf_k]
  exact fun hb' => hk h3 y3 s3 hb' (f12.trans f3) g3 (by omega) (by omega)

set_option maxHeartbeats 4000000 in
theorem piv_ok {n0 m : Nat} (hm : n0 + 3 ≤ m) {v clo : V} {n a b : Nat} {f : Nat → Mp} (hn : n ≤ 1000) (hab : a + 8 ≤ b) (hab2 : b < a + 50) (hb : b ≤ n) {h : H} {K : V → H → Prop} (hv : D h v n f) (hc : CmpC n0 h none clo)
    (hk : ∀ h' (x : Nat) (t : Int), Bd h' → But h h' none → a ≤ x → x < b → (t = 0 ∨ t = 1 ∨ t = 2) → K (.t [.i .i64 x, .i .i64 t]) h') :
    Ok Tryz.prog m 180 [v, .i .i64 a, .i .i64 b, clo] h K := by
  obtain ⟨m, rfl⟩ := Nat.exists_eq_add_of_le' (show 1 ≤ m by omega)
  refine Ok.bd (K180 fun hbd => ?_)
  unfold F180
  rw [sb_64 (by omega)]
  refine al_a tt3 fun r h11 g11 f11 hr hr' => ?_
  have q4 : ∀ κ : V → Prop, pw.qu (mkX Tryz.prog) 3 (.i .i64 ((b : Int) - a)) (.i .i64 4) κ = κ (.i .i64 (((b - a) / 4 : Nat) : Int)) := fun κ => by
    rw [qu_64 (by omega)]
    congr 2
    omega
  have hbd11 := f11.2.2 hbd
  have hvr : vblk v ≠ some r := fun e => by have := VecE.lt hv hbd _ e; omega
  simp only [q4]
  have hq := Nat.div_mul_le_self (b - a) 4
  generalize hQ : (b - a) / 4 = Q at hq ⊢
  have hQ2 : 2 ≤ Q := by omega
  simp (disch := omega) only [ws, dec_t, dec_f, F180_49]
  have c1 : CmpC n0 h11 (some r) clo := fun k hk' x y h2 K2 hb2 f2 kk => hc k hk' x y h2 K2 hb2 (f11.over f2 (.inr fun z e => by cases e; exact hr)) kk
  rw [show (a : Int) + Q * 1 = ((a + Q : Nat) : Int) by omega, show (a : Int) + Q * 2 = ((a + Q * 2 : Nat) : Int) by omega, show (a : Int) + Q * 3 = ((a + Q * 3 : Nat) : Int) by omega]
  refine med_ok (n0 := n0) (by omega) (by omega) (by omega) (by omega) (by omega) (hv.keep hbd f11) c1 hvr g11 fun h2 x s' hbd2 f2 g2 hs' hx => ?_
  unfold F180_30
  rw [l1_a g2 rfl]
  have fz : But h h2 none := f11.over f2 (.inr fun z e => by cases e; exact hr)
  have hx1 : a ≤ x := by omega
  have hx2 : x < b := by omega
  by_cases e0 : s' = 0
  · simp (disch := omega) only [ws, dec_t e0]
    exact fun hb' => hk h2 x 1 hb' fz hx1 hx2 (by omega)
  by_cases e1 : s' = 12
  · simp (disch := omega) only [ws, dec_f e0, dec_t e1]
    exact fun hb' => hk h2 x 2 hb' fz hx1 hx2 (by omega)
  · simp (disch := omega) only [ws, dec_f e0, dec_f e1]
    exact fun hb' => hk h2 x 0 hb' fz hx1 hx2 (by omega)

theorem rev_ok {m : Nat} (hm : 1 ≤ m) {v clo : V} {n a b : Nat} {f : Nat → Mp} (hn : n ≤ 1000) (hab : a < b) (hb : b ≤ n) {h : H} {K : V → H → Prop} (hv : D h v n f)
    (hk : ∀ h' g, Bd h' → But h h' (vblk v) → D h' v n g → Prm a b f g → K (.t []) h') : Ok Tryz.prog m 181 [v, .i .i64 a, .i .i64 b, clo] h K := by
  obtain ⟨m, rfl⟩ := Nat.exists_eq_add_of_le' hm
  refine K181 fun hbd => ?_
  simp (disch := omega) only [F181, ws]
  have main : ∀ (fuel i j : Nat) (h' : H) (g : Nat → Mp), j + 1 < fuel + i → a ≤ i → i ≤ j + 1 → j < b → Bd h' → But h h' (vblk v) → D h' v n g → Prm a b f g → F181_10 pw xx (Ok Tryz.prog m) K fuel v (.i .i64 (i : Nat)) (.i .i64 (j : Nat)) h' := by
    intro fuel
    induction fuel with
    | zero => intro i j h' g a1 a2 a3; omega
    | succ fuel ih =>
      intro i j h' g a1 a2 a3 a4 hbd' hb' hv' hp
      rw [S181_10]
      by_cases hlt : i < j
      · simp (disch := omega) only [ws, dec_t, F181_14]
        refine d_sw hv' (x := j) (y := i) rfl rfl (by omega) (by omega) fun h5 hv5 hb5 => ?_
        try simp (disch := omega) only [ws]
        rw [show (i : Int) + 1 = ((i + 1 : Nat) : Int) by omega, show (j : Int) - 1 = ((j - 1 : Nat) : Int) by omega]
        exact ih (i + 1) (j - 1) h5 _ (by omega) (by omega) (by omega) (by omega) (hb5.2.2 hbd') (hb'.trans hb5) hv5 (hp.trans (Prm.sw g (by omega) (by omega)))
      · simp (disch := omega) only [ws, dec_f]
        exact hk h' g hbd' hb' hv' hp
  rw [show (b : Int) - 1 = ((b - 1 : Nat) : Int) by omega]
  exact main 100000 a (b - 1) h f (by omega) (by omega) (by omega) (by omega) hbd (But.refl _ _) hv (Prm.refl _ _ _)

theorem part_ins_ok {n0 m : Nat} (hm : n0 + 1 ≤ m) {v clo : V} {n a b : Nat} {f : Nat → Mp} (hn : n ≤ 1000) (hab : a < b) (hab2 : b < a + 50) (hb : b ≤ n) {h : H} {K : V → H → Prop} (hv : D h v n f) (hc : CmpC n0 h none clo)
    (hk : ∀ h' (t : Bool), Bd h' → But h h' none → (t = true → Srt a b f) → K (.b t) h') : Ok Tryz.prog m 182 [v, .i .i64 a, .i .i64 b, clo] h K := by
  obtain ⟨m, rfl⟩ := Nat.exists_eq_add_of_le' (show 1 ≤ m by omega)
  refine K182 fun hbd => ?_
  simp (disch := omega) only [F182, ws]
  rw [show (100000 : Nat) = 99999 + 1 from rfl, S182_12]
  simp (disch := omega) only [ws, dec_t, F182_19]
  have main : ∀ (i12 : V → V → V → V → V → V → H → Prop) (fuel k : Nat) (h' : H), b + 1 < fuel + k → a + 1 ≤ k → k ≤ b → Bd h' → But h h' none → Srt a k f → F182_242 pw xx (Ok Tryz.prog m) K i12 fuel v (.i .i64 (a : Nat)) (.i .i64 (b : Nat)) clo (.i .i64 (k : Nat)) (.i .i64 0) h' := by
    intro i12 fuel
    induction fuel with
    | zero => intro k h' a1 a2; omega
    | succ fuel ih =>
      intro k h' a1 a2 a3 hbd' hb' hs
      rw [S182_242]
      have hv' := hv.keep hbd hb'
      by_cases hlt : k < b
      · simp (disch := omega) only [ws, dec_t]
        refine d_rd hv' (i := k) rfl (by omega) ?_
        try simp (disch := omega) only [ws]
        refine d_rd hv' (i := k - 1) (by omega) (by omega) ?_
        try simp (disch := omega) only [ws]
        refine hc m (by omega) (f k) (f (k - 1)) h' _ hbd' hb' fun h3 z hbd3 hb3 hz => ?_
        have hb03 := hb'.trans hb3
        by_cases hz0 : z < 0
        · simp (disch := omega) only [ws, dec_t hz0, Bool.not_true, F182_36, F182_43, dec_t, dec_f]
          exact hk h3 false hbd3 hb03 (fun e => by cases e)
        · simp (disch := omega) only [ws, dec_f hz0, Bool.not_false, F182_249]
          rw [show (k : Int) + 1 = ((k + 1 : Nat) : Int) by omega]
          refine ih (k + 1) h3 (by omega) (by omega) (by omega) hbd3 hb03 fun x y h1 h2 h3 => ?_
          by_cases hy : y = k
          · subst hy
            by_cases hx : x = y - 1
            · subst hx; exact fun e => hz0 (hz.2 e)
            · exact le_tr (hs x (y - 1) h1 (by omega) (by omega)) fun e => hz0 (hz.2 e)
          · exact hs x y h1 h2 (by omega)
      · have hk2 : k = b := by omega
        subst hk2
        simp (disch := omega) only [ws, dec_f, F182_36, dec_t]
        exact hk h' true hbd' hb' fun _ => hs
  rw [show (a : Int) + 1 = ((a + 1 : Nat) : Int) by omega]
  exact main _ 100000 (a + 1) h (by omega) (by omega) (by omega) hbd (But.refl _ _) fun x y h1 h2 h3 => by omega
end Go.Proofs.YtbkhielalbbopaaGreatDoor.Wb
