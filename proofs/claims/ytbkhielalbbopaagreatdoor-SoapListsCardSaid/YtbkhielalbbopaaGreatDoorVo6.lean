/- Sorting: patterns broken. -/
import Derived.Test.YtbkhielalbbopaaGreatDoorVo5
import Derived.Test.YtbkhielalbbopaaGreatDoorM4
set_option linter.unusedSimpArgs false
set_option linter.unusedVariables false
set_option linter.unusedSectionVars false
set_option linter.unnecessarySimpa false
set_option maxRecDepth 100000
namespace Go.Proofs.YtbkhielalbbopaaGreatDoor.Wb
open Go.Am

noncomputable def blenRun (m d n : Nat) : Bool := match sem xx 100000 (d + 5) 156 [.i .u64 (n : Nat)] ⟨m, .l⟩ with
  | some (.i .i64 k, _) => decide (0 ≤ k) && (decide (k ≤ 7) && (decide (n < 2 ^ k.toNat) && decide (2 ^ k.toNat ≤ 2 * n ∨ n = 0)))
  | _ => false
theorem blenRun_ok (m d : Nat) : (List.range 65).all (blenRun m d) = true := by kernel_rfl
theorem blen_ok {n d : Nat} (hd : 5 ≤ d) (hn : n ≤ 64) {h : H} {K : V → H → Prop} (hk : ∀ h' (k : Nat), Bd h' → But h h' none → k ≤ 7 → n < 2 ^ k → (2 ^ k ≤ 2 * n ∨ n = 0) → K (.i .i64 k) h') : Ok Tryz.prog d 156 [.i .u64 (n : Nat)] h K := by
  obtain ⟨d, rfl⟩ := Nat.exists_eq_add_of_le' hd
  have h1 := List.all_eq_true.1 (blenRun_ok h.next d) n (List.mem_range.2 (by omega))
  unfold blenRun at h1
  split at h1
  · rename_i k h' e
    simp only [Bool.and_eq_true, decide_eq_true_eq] at h1
    obtain ⟨a1, a2, a3, a4⟩ := h1
    obtain ⟨k, rfl⟩ : ∃ z : Nat, k = z := ⟨k.toNat, by omega⟩
    rw [Int.toNat_natCast] at a3 a4
    exact ok_run e ⟨rfl, fun r b hb => by simp [T.get] at hb⟩ fun g' hb fr => hk g' k hb ⟨Nat.le_trans fr.2.1 (Nat.le_of_eq fr.1.1.symm), fun q hq _ => (fr.2.2 q hq (by simp [T.get])).2, fun _ => hb⟩ (by omega) a3 a4
  · cases h1

theorem xs_ok {m : Nat} (hm : 1 ≤ m) {r : Nat} {z : Int} {h : H} {K : V → H → Prop} (hg : h.mem.get r = some (.c [.i .u64 z] 220 true)) (hk : ∀ h' z', Bd h' → But h h' (some r) → h'.mem.get r = some (.c [.i .u64 z'] 220 true) → K (.i .u64 z') h') : Ok Tryz.prog m 195 [.p r 0] h K := by
  obtain ⟨m, rfl⟩ := Nat.exists_eq_add_of_le' hm
  refine Ok.bd (K195 fun hbd => ?_)
  unfold F195
  simp only [nl_p]
  rw [l1_a hg rfl, l1_a hg rfl, sl_i (by decide), xo_i]
  refine s1_a hg (by simp) rfl fun h1 g1 f1 => ?_
  simp only [List.set_cons_zero] at g1
  rw [l1_a g1 rfl, l1_a g1 rfl, sr_i (by decide), xo_i]
  refine s1_a g1 (by simp) rfl fun h2 g2 f2 => ?_
  simp only [List.set_cons_zero] at g2
  rw [l1_a g2 rfl, l1_a g2 rfl, sl_i (by decide), xo_i]
  refine s1_a g2 (by simp) rfl fun h3 g3 f3 => ?_
  simp only [List.set_cons_zero] at g3
  rw [l1_a g3 rfl]
  exact fun hb => hk h3 _ hb ((f1.trans f2).trans f3) g3

theorem np_ok {m : Nat} (hm : 6 ≤ m) {len : Nat} (hl : len ≤ 64) (h0 : 1 ≤ len) {h : H} {K : V → H → Prop} (hk : ∀ h' (c : Nat), Bd h' → But h h' none → c ≤ 7 → len < 2 ^ c → 2 ^ c ≤ 2 * len → K (.i .u64 ((2 ^ c : Nat) : Int)) h') : Ok Tryz.prog m 194 [.i .i64 len] h K := by
  obtain ⟨m, rfl⟩ := Nat.exists_eq_add_of_le' (show 1 ≤ m by omega)
  refine K194 fun hbd => ?_
  unfold F194
  rw [ci_u64 (by omega), cf_k]
  refine blen_ok (by omega) hl fun h' c hbd' f hc h1 h2 => ?_
  have hs : ∀ κ : V → Prop, pw.sl (mkX Tryz.prog) 152 (.i .u64 1) (.i .i64 (c : Int)) κ = κ (.i .u64 ((2 ^ c : Nat) : Int)) := fun κ => by
    rw [sl_i (by omega)]
    have : c = 0 ∨ c = 1 ∨ c = 2 ∨ c = 3 ∨ c = 4 ∨ c = 5 ∨ c = 6 ∨ c = 7 := by omega
    rcases this with e | e | e | e | e | e | e | e <;> subst e <;> rfl
  rw [hs]
  exact hk h' c hbd' f hc h1 (by omega)

set_option maxHeartbeats 4000000 in
theorem brk_ok {m : Nat} (hm : 7 ≤ m) {v clo : V} {n a b : Nat} {f : Nat → Mp} (hn : n ≤ 1000) (hab : a + 8 ≤ b) (hab2 : b ≤ a + 64) (hb : b ≤ n) {h : H} {K : V → H → Prop} (hv : D h v n f)
    (hk : ∀ h' g, Bd h' → But h h' (vblk v) → D h' v n g → Prm a b f g → K (.t []) h') : Ok Tryz.prog m 179 [v, .i .i64 a, .i .i64 b, clo] h K := by
  obtain ⟨m, rfl⟩ := Nat.exists_eq_add_of_le' (show 1 ≤ m by omega)
  refine K179 fun hbd => ?_
  obtain ⟨len, rfl⟩ : ∃ len, b = a + len := ⟨b - a, by omega⟩
  unfold F179
  have hsb : ∀ κ : V → Prop, pw.sb (mkX Tryz.prog) 3 (.i .i64 ((a + len : Nat) : Int)) (.i .i64 a) κ = κ (.i .i64 (len : Nat)) := fun κ => by
    rw [sb_64 (by omega)]
    congr 2
    omega
  rw [hsb, ge_i, decide_eq_true (show (8 : Int) ≤ (len : Int) by omega), cd_t, ci_u64 (by omega)]
  refine al_a tt220 fun r h13 g13 f13 hr hr' => ?_
  refine s1_a g13 (by simp) rfl fun h14 g14 f14 => ?_
  have g14' : h14.mem.get r = some (.c [.i .u64 (len : Nat)] 220 true) := g14
  have f014 : But h h14 none := f13.over f14 (.inr fun z e => by cases e; exact hr)
  have hbd14 := f014.2.2 hbd
  have hlt14 : r < h14.next := by have := f14.1; omega
  rw [cf_k]
  refine np_ok (by omega) (by omega) (by omega) fun h16 c hbd16 f16 hc7 hc1 hc2 => ?_
  have g16 := f16.get hlt14 (by simp) g14'
  have f016 := f014.trans f16
  have q4 : ∀ κ : V → Prop, pw.qu (mkX Tryz.prog) 3 (.i .i64 (len : Nat)) (.i .i64 4) κ = κ (.i .i64 ((len / 4 : Nat) : Int)) := fun κ => by
    rw [qu_64 (by omega)]
    congr 2
  have hq := Nat.div_mul_le_self len 4
  have hq2 : 2 ≤ len / 4 := by omega
  simp only [q4]
  generalize len / 4 = Q at hq hq2 q4 ⊢
  have hvl := VecE.lt hv hbd
  have hvr : some r ≠ vblk v := fun e => by have := hvl _ e.symm; omega
  have e1 : IntKind.u64.wrap (((2 ^ c : Nat) : Int) - 1) = (2 : Int) ^ c - 1 := by
    have : c = 0 ∨ c = 1 ∨ c = 2 ∨ c = 3 ∨ c = 4 ∨ c = 5 ∨ c = 6 ∨ c = 7 := by omega
    rcases this with e | e | e | e | e | e | e | e <;> subst e <;> rfl
  have e2 : (0 : Int) < 2 ^ c ∧ (2 : Int) ^ c ≤ 128 ∧ ((2 ^ c : Nat) : Int) = 2 ^ c := by
    have : c = 0 ∨ c = 1 ∨ c = 2 ∨ c = 3 ∨ c = 4 ∨ c = 5 ∨ c = 6 ∨ c = 7 := by omega
    rcases this with e | e | e | e | e | e | e | e <;> subst e <;> decide
  obtain ⟨e2, e3, e4⟩ := e2
  have main : ∀ (fuel k : Nat) (h' : H) (g : Nat → Mp) (z : Int), a + Q * 2 + 3 < fuel + k → a + Q * 2 - 1 ≤ k → k ≤ a + Q * 2 + 2 → Bd h' → But h h' (vblk v) → D h' v n g → Prm a (a + len) f g → r < h'.next → h'.mem.get r = some (.c [.i .u64 z] 220 true) →
      F179_25 pw xx (Ok Tryz.prog m) K fuel v (.i .i64 a) (.i .i64 (len : Nat)) (.p r 0) (.i .u64 ((2 ^ c : Nat) : Int)) (.i .i64 (k : Nat)) h' := by
    intro fuel
    induction fuel with
    | zero => intro k h' g z a1 a2 a3; omega
    | succ fuel ih =>
      intro k h' g z a1 a2 a3 hbd' hb' hv' hp hlt hg
      rw [S179_25]
      rw [show pw.qu xx 3 (.i .i64 (len : Nat)) (.i .i64 4) = fun κ => κ (.i .i64 (Q : Int)) from funext fun κ => q4 κ]
      by_cases hle : k ≤ a + Q * 2 + 1
      · simp (disch := omega) only [ws, dec_t, F179_32]
        refine xs_ok (by omega) hg fun h2 z' hbd2 f2 g2 => ?_
        have hb2 : But h h2 (vblk v) := hb'.over f2 (.inr fun z e => by cases e; exact hr)
        have hv2 := hv'.frame hbd' f2 (fun e => hvr e.symm)
        have hmask : ∀ κ : V → Prop, (pw.sb (mkX Tryz.prog) 152 (.i .u64 ((2 ^ c : Nat) : Int)) (.i .u64 1) fun v51 => pw.an (mkX Tryz.prog) 152 (.i .u64 z') v51 κ) = κ (.i .u64 (z' % 2 ^ c)) := fun κ => by
          rw [sb_i, e1]
          exact an_mask c (show c ≤ 64 by omega) fun z z1 z2 => by rw [wrap_u64', Int.emod_eq_of_lt z1 (by omega)]
        rw [hmask]
        have hz1 := Int.emod_nonneg z' (show (2 : Int) ^ c ≠ 0 by omega)
        have hz2 := Int.emod_lt_of_pos z' (show (0 : Int) < 2 ^ c by omega)
        generalize z' % 2 ^ c = w at hz1 hz2 ⊢
        have fin : ∀ (o : Nat), o < len → F179_55 pw xx (Ok Tryz.prog m) K (F179_25 pw xx (Ok Tryz.prog m) K fuel) v (.i .i64 a) (.i .i64 (len : Nat)) (.p r 0) (.i .u64 ((2 ^ c : Nat) : Int)) (.i .i64 (k : Nat)) (.i .i64 (o : Nat)) h2 := by
          intro o ho
          unfold F179_55
          simp (disch := omega) only [ws]
          refine d_sw hv2 (x := a + o) (y := k) (by omega) rfl (by omega) (by omega) fun h5 hv5 hb5 => ?_
          simp (disch := omega) only [F179_39, ws]
          rw [show (k : Int) + 1 = ((k + 1 : Nat) : Int) by omega]
          exact ih (k + 1) h5 _ z' (by omega) (by omega) (by omega) (hb5.2.2 hbd2) (hb2.trans hb5) hv5 (hp.trans (Prm.sw g (by omega) (by omega))) (by have := f2.1; have := hb5.1; omega) (hb5.get (by have := f2.1; omega) hvr g2)
        rw [ci_64 (by omega), ge_i]
        by_cases hw : (len : Int) ≤ w
        · rw [decide_eq_true hw, cd_t, sb_64 (by omega)]
          obtain ⟨o, ho⟩ : ∃ o : Nat, w - len = o := ⟨(w - len).toNat, by omega⟩
          rw [ho]
          exact fin o (by omega)
        · rw [decide_eq_false hw, cd_f]
          obtain ⟨o, ho⟩ : ∃ o : Nat, w = o := ⟨w.toNat, by omega⟩
          rw [ho]
          exact fin o (by omega)
      · simp (disch := omega) only [ws, dec_f]
        exact hk h' g hbd' hb' hv' hp
  simp (disch := omega) only [ws]
  rw [show (a : Int) + (Q : Int) * 2 - 1 = ((a + Q * 2 - 1 : Nat) : Int) by omega]
  exact main 100000 (a + Q * 2 - 1) h16 f _ (by omega) (Nat.le_refl _) (by omega) hbd16 (f016.none _) (hv.keep hbd f016) (Prm.refl _ _ _) (by have := f16.1; omega) g16
end Go.Proofs.YtbkhielalbbopaaGreatDoor.Wb
