/- The lists: the law. -/
import Derived.Test.YtbkhielalbbopaaGreatDoorVq8
set_option linter.unusedSimpArgs false
set_option linter.unusedVariables false
set_option linter.unusedSectionVars false
set_option linter.unnecessarySimpa false
set_option maxRecDepth 100000
namespace Go.Proofs.YtbkhielalbbopaaGreatDoor.Wb
open Go Go.Am Go.Am.Xm

set_option maxHeartbeats 4000000 in
theorem loop2 {n : Nat} (hn : 95 ≤ n) {N : Nat} (hN : N ≤ 20) {K : V → H → Prop} (k : ∀ h', K (.b true) h') :
    ∀ (fuel i : Nat) (h : H) (rt : Nat) (c : Option Nat) (tn : Int), N < fuel + i → i ≤ N → Bd h → (tn = 0 ∨ tn = 9) → PT h rt c 40000 50 tn (esN N) → P10 h → rt ≠ 3 → F7_19 pw (mkX Tryz.prog) (Ok Tryz.prog n) K fuel (.i .i64 N) (.p rt 0) (.i .i64 (i : Nat)) h := by
  intro fuel
  induction fuel with
  | zero => intro i h rt c tn a1 a2; omega
  | succ fuel ih =>
  intro i h rt c tn a1 a2 hbd htn ht P hr3
  rw [S7_19, le_i, decide_eq_true (show (i : Int) ≤ (N : Int) by omega), cd_t]
  unfold F7_23
  obtain ⟨hlr, _⟩ := ht.lt hbd
  rw [show cstW (wL (wL (wL (wR (wL (wL (wR (wL (wR (wR (wR (wR (wR (bdyW Tryz.f7)))))))))))))) 3 0 = .s nIdx by kernel_rfl, show cstW (wL (wL (wL (wR (wL (wL (wR (wL (wR (wR (wR (wR (wR (bdyW Tryz.f7)))))))))))))) 5 0 = .s nGen by kernel_rfl, cf_k]
  refine Ok.bd (rtext_ok 2 (by omega) i (by omega) (by omega) (by omega) fun h1 f1 hbd1 => ?_)
  refine bl_a (v := .a [.s nIdx, .s (digs i)]) ?_ ?_
  · unfold blW
    rw [ti_some _ tt49]
    rfl
  refine bs_a (cs := encs encG [(nIdx, digs i)]) tt23 rfl tt49 (by decide) rfl rfl fun q2 h2 g2 f2 hq2 hq2' => ?_
  have hv2 := vec_lit g2
  have hbd2 := f2.2.2 hbd1
  refine bl_a (v := .a [.s nGen, .sl q2 0 1 1 false]) ?_ ?_
  · unfold blW
    rw [ti_some _ tt25]
    rfl
  rw [cf_k]
  refine usual_ok (by omega) fun h3 hbd3 f3 => ?_
  have hv3 := hv2.keep (hv2.lt hbd2) f3 (.inr rfl)
  have f03 := (f1.trans f2).trans f3
  have n03 := f03.1
  have ht3 := ht.keep hbd f03
  have P3 := P.keep f03 (by simp)
  rw [cf_k]
  have go : ∀ (w : V) (code : Int) (h4 : H), Bd h4 → But h3 h4 (some rt) → PT h4 rt c 40000 50 9 (esN N) → (N ≤ i → w = .ns ∧ code = 713) → (i < N → code = 0 ∧ VecE h4 w 49 2 encG (genA (201 - N + i))) →
      pw.eq (mkX Tryz.prog) 3 (.i .i64 (i : Nat)) (.i .i64 (N : Nat)) fun v100 => pw.cd v100 (pw.eq (mkX Tryz.prog) 3 (.i .i64 code) (.i .i64 713) fun v102 => pw.g1 v102 (fun κ => κ w h4) h4 fun v105 h105 => pw.g1 v102 (fun κ => pw.ls (mkX Tryz.prog) 23 v105 fun v106 => κ v106 h105) h105 fun v107 h107 => pw.g1 v102 (fun κ => pw.eq (mkX Tryz.prog) 3 v107 (.i .i64 0) fun v108 => κ v108 h107) h107 fun v109 h109 => pw.pk v102 v109 (.b false) fun v110 => K v110 h109) (F7_47 pw (mkX Tryz.prog) (Ok Tryz.prog n) K (F7_19 pw (mkX Tryz.prog) (Ok Tryz.prog n) K fuel) (.i .i64 (N : Nat)) (.p rt 0) (.i .i64 (i : Nat)) w (.i .i64 code) h4) := by
    intro w code h4 hbd4 f4 ht4 kN kY
    rw [eq_i]
    by_cases hiN : i = N
    · obtain ⟨rfl, rfl⟩ := kN (by omega)
      rw [decide_eq_true (show (i : Int) = (N : Int) by omega), cd_t, eq_i, decide_eq_true rfl]
      simp (disch := omega) only [ws, ls_ns tt23 rfl]
      exact k h4
    · obtain ⟨rfl, hv4⟩ := kY (by omega)
      rw [decide_eq_false (show ¬ (i : Int) = (N : Int) by omega), cd_f]
      unfold F7_47
      have P4 := P3.keep f4 (fun e => hr3 (Option.some.inj e))
      rw [ne_i, decide_eq_true rfl]
      simp (disch := omega) only [ws, Bool.not_true, vece_len tt23 rfl hv4]
      rw [show ((genA (201 - N + i)).length : Int) = 6 from rfl]
      simp (disch := omega) only [ws, ne_i, decide_true, Bool.not_true]
      refine vece_at (i := 0) encG_len hv4 rfl (by simp [genA, entA]) fun b ha => ?_
      have x1 : ∀ κ : V → Prop, pw.l1 (.p b (0 * 2 + 1)) h4 κ = κ (.s (digs (201 - N + i))) := fun κ => ha.get (f := 1) rfl
      simp (disch := omega) only [ws, x1]
      rw [show (201 : Int) - (N : Int) + (i : Int) = ((201 - N + i : Nat) : Int) by omega]
      refine Ok.bd (rtext_ok 2 (by omega) (201 - N + i) (by omega) (by omega) (by omega) fun h5 f5 hbd5 => ⟨fun z hz => f5.2.1 z hz (by simp), ?_⟩)
      dsimp only
      rw [ne_s]
      simp (disch := omega) only [ws, BEq.rfl, Bool.not_true]
      refine vece_at (i := 5) encG_len hv4 rfl (by simp [genA, entA]) fun b2 ha2 => ?_
      have x2 : ∀ κ : V → Prop, pw.l1 (.p b2 (5 * 2 + 1)) h4 κ = κ (.s (digs 60)) := fun κ => ha2.get (f := 1) rfl
      simp (disch := omega) only [ws, x2]
      rw [show cstW (wL (wR (wR (wL (wL (wR (wL (wL (wR (wL (wR (wR (wR (wR (wR (bdyW Tryz.f7)))))))))))))))) 24 1 = .s (digs 60) by kernel_rfl, ne_s]
      simp (disch := omega) only [ws, BEq.rfl, Bool.not_true, F7_27]
      rw [show (i : Int) + 1 = ((i + 1 : Nat) : Int) by omega]
      exact ih (i + 1) h5 rt c 9 (by omega) (by omega) hbd5 (.inr rfl) (ht4.keep hbd4 f5) (P4.keep f5 (by simp)) hr3
  refine do_gen (n := n) (by omega) hv3 (fun h4 rd hbd4 f4 hrd _ => generic_ok (by omega) hN (by omega) htn hrd (ht3.keep hbd3 f4) (P3.keep f4 (by simp)) hr3 (fun hNi h5 hbd5 f5 ht5 => ?_) fun hiN h5 w hbd5 f5 ht5 hv5 => ?_)
  · simp only [ex_t, List.getElem?_cons_zero, List.getElem?_cons_succ, oP_some]
    exact fun _ => go .ns 713 h5 hbd5 ((f4.none _).trans f5) ht5 (fun _ => ⟨rfl, rfl⟩) fun h => by omega
  · simp only [ex_t, List.getElem?_cons_zero, List.getElem?_cons_succ, oP_some]
    exact fun _ => go w 0 h5 hbd5 ((f4.none _).trans f5) ht5 (fun h => by omega) fun _ => ⟨rfl, hv5⟩

/-- The law: whatever the number. -/
theorem lists_law {n : Nat} (hn : 95 ≤ n) {a : Int} {h : H} {K : V → H → Prop} (hbd : Bd h) (P : P10 h) (aw : ∀ {K : V → H → Prop}, (∀ h', Bd h' → But h h' none → K (.b true) h') → Ok Tryz.prog n 8 [] h K) (k : ∀ h', K (.b true) h') : Ok Tryz.prog (n + 1) 7 [.i .i64 a] h K := by
  refine Ok.bd (K7 fun hbd => ?_)
  unfold F7
  rw [cf_k]
  refine aw fun h1 hbd1 f1 => ?_
  simp only [nt_b, Bool.not_true, cd_f]
  have kt : ∀ h' : H, Bd h' → K (.b true) h' := fun h' _ => k h'
  unfold F7_3
  by_cases c1 : a < 0
  · simp (disch := omega) only [ws, lt_i, dec_t c1]
    exact kt h1
  by_cases c2 : 20 < a
  · simp (disch := omega) only [ws, lt_i, gt_i, dec_f c1, dec_t c2]
    exact kt h1
  simp (disch := omega) only [ws, lt_i, gt_i, dec_f c1, dec_f c2, F7_5]
  obtain ⟨N, rfl⟩ : ∃ m : Nat, a = m := ⟨a.toNat, by omega⟩
  refine new_ok (by omega) (by omega) (by omega) fun rt h2 hbd2 f2 hrt ht2 => ?_
  simp only [ex_t, List.getElem?_cons_zero, List.getElem?_cons_succ, oP_some]
  obtain ⟨l, ty, w, p1, p2, p3, p4⟩ := id P
  have f12 := f1.trans f2
  have n1 := f1.1
  refine loop1 (X := some (.c l ty w)) (by omega) (by omega) (fun h3 rt3 c3 tn3 hbd3 htn3 ht3 hX => ?_) 100000 0 h2 rt none 0 (by omega) (by omega) hbd2 (.inl rfl) ht2 ⟨f12.get p4 (by simp) p1, by have := f12.1; omega, by omega, by simp⟩
  unfold F7_13
  exact loop2 hn (by omega) (fun h' _ => k h') 100000 0 h3 rt3 c3 tn3 (by omega) (by omega) hbd3 htn3 ht3 ⟨l, ty, w, hX.1, p2, p3, hX.2.1⟩ hX.2.2.1
end Go.Proofs.YtbkhielalbbopaaGreatDoor.Wb
