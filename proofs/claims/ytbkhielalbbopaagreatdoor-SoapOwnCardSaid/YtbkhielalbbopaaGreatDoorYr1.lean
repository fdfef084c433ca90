/- One host's mapping is not another's: the law. -/
import Derived.Test.YtbkhielalbbopaaGreatDoorYp9
set_option linter.unusedSimpArgs false
set_option linter.unusedVariables false
set_option linter.unusedSectionVars false
set_option linter.unnecessarySimpa false
set_option maxRecDepth 100000
namespace Go.Proofs.YtbkhielalbbopaaGreatDoor.Wb
open Go Go.Am Go.Am.Xm

theorem eaq {x : Ad} {κ : V → Prop} : pw.eq xx 41 (.a (encA x)) (.a (encA x)) κ = κ (.b true) := by
  obtain ⟨a, b, c, d⟩ := x
  simp [encA, pw, bin, ti, tt41, eqOp, eqF, eqK, oP]

set_option maxHeartbeats 4000000 in
theorem own_main {n : Nat} (hn : 10 ≤ n) {m o : Nat} (h1 : 1 ≤ m) (h2 : m ≤ 65535) (ho : o < 256) (ho5 : o ≠ 5) {h : H} {K : V → H → Prop} (k : ∀ h', K (.b true) h') :
    F5_7 pw (mkX Tryz.prog) (Ok Tryz.prog n) K (.i .i64 m) (.i .i64 o) h := by
  unfold F5_7
  rw [show cstW (wL (wR (wR (wR (wR (wR (bdyW Tryz.f5))))))) 2 2 = .s tcp by kernel_rfl, show cstW (wL (wR (wR (wR (wR (wR (bdyW Tryz.f5))))))) 2 3 = .s (digs 80) by kernel_rfl, show cstW (wL (wR (wR (wR (wR (wR (bdyW Tryz.f5))))))) 2 4 = .s (adrT 10 0 0 5) by kernel_rfl, show cstW (wL (wR (wR (wR (wR (wR (bdyW Tryz.f5))))))) 2 5 = .s (digs 60) by kernel_rfl]
  rw [show cstW (wL (wR (wR (wR (wR (wR (wR (wR (wR (bdyW Tryz.f5)))))))))) 5 2 = .s tcp by kernel_rfl, show cstW (wL (wR (wR (wR (wR (wR (wR (wR (wR (bdyW Tryz.f5)))))))))) 5 3 = .s (digs 80) by kernel_rfl, show cstW (wL (wR (wR (wR (wR (wR (wR (wR (wR (bdyW Tryz.f5)))))))))) 5 5 = .s (digs 60) by kernel_rfl]
  rw [show cstW (wL (wR (wR (wR (wR (wR (wR (wR (wR (wR (bdyW Tryz.f5))))))))))) 1 0 = .s nOut by kernel_rfl, show cstW (wL (wR (wR (wR (wR (wR (wR (wR (wR (wR (bdyW Tryz.f5))))))))))) 2 0 = .s nProto by kernel_rfl, show cstW (wL (wR (wR (wR (wR (wR (wR (wR (wR (wR (bdyW Tryz.f5))))))))))) 2 1 = .s tcp by kernel_rfl, show cstW (wL (wR (wR (wR (wR (wR (wR (wR (wR (wR (bdyW Tryz.f5))))))))))) 4 0 = .s nDel by kernel_rfl]
  rw [cf_k]
  refine new_ok (by omega) (by omega) (by omega) fun rt h10 hbd10 f10 hrt ht10 => ?_
  obtain ⟨hrt', _⟩ := ht10.lt hbd10
  simp only [ex_t, List.getElem?_cons_zero, List.getElem?_cons_succ, oP_some, cf_k]
  refine usual_ok (by omega) fun h16 hbd16 f16 => ?_
  refine Ok.bd (rtext_ok 4 (by omega) m (by omega) (by omega) (by omega) fun h18 f18 hbd18 => ?_)
  refine al_a tt43 fun ra h19 g19 f19 hra hra' => ?_
  refine sn_w (sz := 11) (cs := encS ⟨10, 0, 0, 5⟩) g19 rfl rfl rfl rfl fun h20 g20 f20 => ?_
  have f1820 : But h18 h20 none := f19.over f20 (.inr fun z e => by cases e; exact hra)
  have hbd20 := f1820.2.2 hbd18
  have n16 := f16.1
  have n18 := f18.1
  have n19 := f19.1
  have n20 := f20.1
  refine call_ok (by omega) fun h24 v24 hbd24 f24 hv24 => ⟨fun z hz => f24.2.1 z hz (by simp), ?_⟩
  have n24 := f24.1
  dsimp only
  rw [ln_w (sz := 11) g20 rfl]
  have ht24 := (((ht10.keep hbd10 f16).keep hbd16 f18).keep hbd18 f1820).keep hbd20 f24
  have g24 := f24.get (by omega) (by simp) g20
  refine doA_ok (by omega) h1 h2 ht24 hv24 fun h26 c' hbd26 f26 hc' ht26 => ?_
  have n26 := f26.1
  obtain ⟨hrt26, hc26⟩ := ht26.lt hbd26
  have hart : ra ≠ rt := by omega
  have hac : some ra ≠ c' := by
    rcases hc' with e | ⟨z, e, hz⟩
    · rw [e]; simp
    · rw [e]; intro e2; have := Option.some.inj e2; omega
  have g26 := f26.get (by omega) hart (by simp) g24
  simp only [ex_t, List.getElem?_cons_zero, List.getElem?_cons_succ, oP_some]
  rw [ln_w (sz := 11) g26 rfl]
  refine al_a tt43 fun rb h33 g33 f33 hrb hrb' => ?_
  refine sn_w (sz := 11) (cs := encS ⟨10, 0, 0, 5⟩) g33 rfl rfl rfl rfl fun h34 g34 f34 => ?_
  have n33 := f33.1
  have n34 := f34.1
  have f2634 : But h26 h34 none := f33.over f34 (.inr fun z e => by cases e; exact hrb)
  have hbd34 := f2634.2.2 hbd26
  refine at_ok (by omega) (by omega) fun h36 hbd36 f36 => ?_
  have n36 := f36.1
  have g36 := f36.get (by omega) (by simp) g34
  rw [fa_p]
  refine sn_a (sz := 4) (o := 0 + 6) (cs := encA ⟨10, 0, 0, o⟩) g36 rfl rfl rfl (by simp [encS]) fun h38 g38 f38 => ?_
  have n38 := f38.1
  have g38' : h38.mem.get rb = some (.c (encS ⟨10, 0, 0, o⟩) 43 true) := g38
  have f2638 : But h26 h38 none := (f2634.trans f36).over f38 (.inr fun z e => by cases e; omega)
  have hbd38 := f2638.2.2 hbd26
  refine at_ok (by omega) (by omega) fun h42 hbd42 f42 => ⟨fun z hz => f42.2.1 z hz (by simp), ?_⟩
  have n42 := f42.1
  refine Ok.bd (atext_ok (a := 10) (b := 0) (c := 0) (d := o) (by omega) (by omega) (by omega) (by omega) ho fun h43 f43 hbd43 => ⟨fun z hz => f43.2.1 z hz (by simp), ?_⟩)
  have n43 := f43.1
  refine call_ok (by omega) fun h44 v44 hbd44 f44 hv44 => ⟨fun z hz => f44.2.1 z hz (by simp), ?_⟩
  have n44 := f44.1
  dsimp only
  rw [ln_w (sz := 11) g38' rfl]
  have f3844 : But h38 h44 none := (f42.trans f43).trans f44
  have ht44 := (ht26.keep hbd26 f2638).keep hbd38 f3844
  refine doB_ok (by omega) h1 h2 ho ho5 ht44 hv44 fun h46 hbd46 f46 ht46 => ?_
  have n46 := f46.1
  have hbrt : some rb ≠ some rt := fun e => by have := Option.some.inj e; omega
  have hart' : some ra ≠ some rt := fun e => hart (Option.some.inj e)
  have gb46 := f46.get (by omega) hbrt (f3844.get (by omega) (by simp) g38')
  have ga46 := f46.get (by omega) hart' (f3844.get (by omega) (by simp) (f2638.get (by omega) (by simp) g26))
  simp only [ex_t, List.getElem?_cons_zero, List.getElem?_cons_succ, oP_some]
  have b49 : ∀ (a b : Bs), blW (mkX Tryz.prog) 49 [(0, .s a), (1, .s b)] = some (.a [.s a, .s b]) := fun a b => by
    unfold blW
    rw [ti_some _ tt49]
    rfl
  refine bl_a (b49 _ _) (bl_a (b49 _ _) ?_)
  refine bs_a (cs := encs encG (argsD (digs m))) tt23 rfl tt49 (by decide) rfl rfl fun q55 h55 g55 f55 hq55 hq55' => ?_
  have n55 := f55.1
  have hv55 := vec_lit g55
  have hbd55 := f55.2.2 hbd46
  refine bl_a (v := .a [.s nDel, .sl q55 0 2 2 false]) ?_ ?_
  · unfold blW
    rw [ti_some _ tt25]
    rfl
  refine al_a tt25 fun rc h57 g57 f57 hrc hrc' => ?_
  have n57 := f57.1
  refine sn_w (sz := 2) (cs := [.s nDel, .sl q55 0 2 2 false]) g57 rfl rfl rfl rfl fun h58 g58 f58 => ?_
  have n58 := f58.1
  have f5558 : But h55 h58 none := f57.over f58 (.inr fun z e => by cases e; exact hrc)
  have f4658 : But h46 h58 none := f55.trans f5558
  have hbd58 := f4658.2.2 hbd46
  have hv58 := hv55.keep (hv55.lt hbd55) f5558 (.inr rfl)
  have ht58 := ht46.keep hbd46 f4658
  have gb58 := f4658.get (by omega) (by simp) gb46
  have ga58 := f4658.get (by omega) (by simp) ga46
  rw [ln_w (sz := 2) g58 rfl, ln_w (sz := 11) gb58 rfl]
  refine doC_ok (by omega) h2 ho5 ht58 hv58 fun h62 hbd62 f62 ht62 => ?_
  have n62 := f62.1
  simp only [ex_t, List.getElem?_cons_zero, List.getElem?_cons_succ, oP_some]
  have e0 : fndP (fdE 6 m (timeP 9 9)) [mA m 5] 0 = 0 := by rw [tp9]; simp [fndP, fdE, lvE, mA]
  refine in_ok (by omega) ht62 (by simp) (fun _ _ _ _ hneg => by rw [e0] at hneg; omega) fun h70 j hbd70 f70 ht70 hj _ _ => ?_
  have hj0 : j = 0 := by simp at hj; exact hj
  subst hj0
  rw [tp9] at ht70
  have n70 := f70.1
  simp only [ex_t, List.getElem?_cons_zero, List.getElem?_cons_succ, oP_some, List.getElem_cons_zero]
  refine al_a tt55 fun rd h74 g74 f74 hrd hrd' => ?_
  have n74 := f74.1
  refine sn_w (sz := 9) (cs := encM (mA m 5)) g74 rfl rfl rfl rfl fun h75 g75 f75 => ?_
  have n75 := f75.1
  have f7075 : But h70 h75 none := f74.over f75 (.inr fun z e => by cases e; exact hrd)
  have hbd75 := f7075.2.2 hbd70
  have f5875 : But h58 h75 (some rt) := (f62.trans f70).trans (f7075.none _)
  have hcrt : some rc ≠ some rt := fun e => by have := Option.some.inj e; omega
  have gc75 := f5875.get (by omega) hcrt g58
  have ga75 := f5875.get (by omega) hart' ga58
  have hv75 := hv58.keep (hv58.lt hbd58) f5875 (.inl fun e => by have := Option.some.inj e; omega)
  have ht75 := ht70.keep hbd70 f7075
  rw [ln_w (sz := 2) gc75 rfl, ln_w (sz := 11) ga75 rfl]
  refine doD_ok (by omega) h2 ht75 hv75 fun h80 hbd80 f80 ht80 => ?_
  have hdc : some rd ≠ c' := fun e => by have := hc26 _ e.symm; omega
  have g80 := f80.get (by omega) (show rd ≠ rt by omega) hdc g75
  have y2 : ∀ κ : V → Prop, pw.ln 4 (.p rd (0 + 2)) h80 κ = κ (.a (encA ⟨10, 0, 0, 5⟩)) := fun κ => by rw [ln_a (sz := 4) g80 (by simp [encM])]; rfl
  simp (disch := omega) only [ws, List.getElem?_cons_zero, List.getElem?_cons_succ, oP_some, eq_i, eq_self, decide_true, y2]
  refine at_ok (by omega) (by omega) fun h109 hbd109 f109 => ⟨fun z hz => f109.2.1 z hz (by simp), ?_⟩
  simp (disch := omega) only [ws, eaq, eq_i, eq_self, decide_true]
  refine len_ok (by omega) (ht80.keep hbd80 f109) (by simp) fun h123 _ _ _ => ?_
  rw [show ((cntL (timeP 9 9) [] : Nat) : Int) = 0 from rfl]
  simp (disch := omega) only [ws, eq_i, eq_self, decide_true]
  exact k h123

/-- The law: whatever the port, whatever the other host. -/
theorem own_law {n : Nat} (hn : 10 ≤ n) {p o : Int} {h : H} {K : V → H → Prop} (aw : ∀ {K : V → H → Prop}, (∀ h', Bd h' → But h h' none → K (.b true) h') → Ok Tryz.prog n 8 [] h K) (k : ∀ h', K (.b true) h') : Ok Tryz.prog (n + 1) 5 [.i .i64 p, .i .i64 o] h K := by
  refine Ok.bd (K5 fun hbd => ?_)
  unfold F5
  rw [cf_k]
  refine aw fun h1 hbd1 f1 => ?_
  simp only [nt_b, Bool.not_true, cd_f]
  have kt : ∀ h' : H, Bd h' → K (.b true) h' := fun h' _ => k h'
  unfold F5_4
  by_cases c1 : p < 1
  · simp (disch := omega) only [ws, lt_i, dec_t c1]
    exact kt h1
  by_cases c2 : 65535 < p
  · simp (disch := omega) only [ws, lt_i, gt_i, dec_f c1, dec_t c2]
    exact kt h1
  by_cases c3 : o < 0
  · simp (disch := omega) only [ws, lt_i, gt_i, dec_f c1, dec_f c2, dec_t c3]
    exact kt h1
  by_cases c4 : 255 < o
  · simp (disch := omega) only [ws, lt_i, gt_i, dec_f c1, dec_f c2, dec_f c3, dec_t c4]
    exact kt h1
  by_cases c5 : o = 5
  · simp (disch := omega) only [ws, lt_i, gt_i, eq_i, dec_f c1, dec_f c2, dec_f c3, dec_f c4, dec_t c5]
    exact kt h1
  simp (disch := omega) only [ws, lt_i, gt_i, eq_i, dec_f c1, dec_f c2, dec_f c3, dec_f c4, dec_f c5]
  obtain ⟨m, rfl⟩ : ∃ m : Nat, p = m := ⟨p.toNat, by omega⟩
  obtain ⟨o, rfl⟩ : ∃ m : Nat, o = m := ⟨o.toNat, by omega⟩
  exact own_main hn (by omega) (by omega) (by omega) (by omega) fun h' _ => k h'
end Go.Proofs.YtbkhielalbbopaaGreatDoor.Wb
