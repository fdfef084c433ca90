/- Parse: what the program reads of a plain text. -/
import Derived.Test.YtbkhielalbbopaaGreatDoorZq6
set_option linter.unusedSimpArgs false
set_option linter.unusedVariables false
set_option linter.unusedSectionVars false
set_option linter.unnecessarySimpa false
set_option maxRecDepth 100000
namespace Go.Proofs.YtbkhielalbbopaaGreatDoor.Wb
open Go Go.Am Go.Am.Xm

/-- A tree's variable: a block that is made behind a heap. -/
structure Var3 (hS h : H) (q : Nat) (cs : List V) : Prop where
  g : h.mem.get q = some (.c cs 63 true)
  l : cs.length = 3
  q0 : hS.next ≤ q
  q1 : q < h.next
theorem Var3.keep {hS h h' : H} {q r : Nat} {cs : List V} (v : Var3 hS h q cs) (f : But h h' (some r)) (hr : q ≠ r) : Var3 hS h' q cs := ⟨f.get v.q1 (fun e => hr (Option.some.inj e)) v.g, v.l, v.q0, Nat.lt_of_lt_of_le v.q1 f.1⟩
theorem Var3.keep0 {hS h h' : H} {q : Nat} {cs : List V} (v : Var3 hS h q cs) (f : But h h' none) : Var3 hS h' q cs := ⟨f.get v.q1 (by simp) v.g, v.l, v.q0, Nat.lt_of_lt_of_le v.q1 f.1⟩

theorem TrA.zero (h : H) (N : Nat → Prop) : TrA h N XT0 ([], [], .ns) := ⟨rfl, rfl, [], ⟨rfl, .inl ⟨rfl, rfl⟩⟩, (fun q hq => by cases hq), rfl⟩
theorem zero_e {e : Te} (he : e = ([], [], .ns)) : encT e = [.s [], .s [], .ns] := by rw [he]; rfl

/-- The end of Parse. -/
theorem pend_ok {n : Nat} {r v t : Nat} {hS h : H} {p : PS} {d : Int} {cs : List V} {tr : XT} {e : Te} {K : V → H → Prop} (P : Prs h r p.1 p.2 d) (V1 : Var3 hS h v cs) (T : Var3 hS h t (encT e)) (A : TrA h (fun q => hS.next ≤ q ∧ q ≠ v) tr e) (f : But hS h none)
    (k : ∀ h' e, But hS h' none → TrA h' (fun q => hS.next ≤ q) (endP tr p d).1 e → K (.t [.a (encT e), .i .i64 (endP tr p d).2]) h') : F22_23 pw (mkX Tryz.prog) (Ok Tryz.prog n) (fun v h => Bd h → K v h) (.p v 0) (.p r 0) (.p t 0) h := by
  obtain ⟨ty, hg⟩ := P
  unfold F22_23
  simp only [nl_p, fa_p, Nat.zero_add]
  have r0 : ∀ κ : V → Prop, pw.l1 (.p r 0) h κ = κ (.s p.1) := fun κ => l1_a hg rfl
  have r1 : ∀ κ : V → Prop, pw.l1 (.p r 1) h κ = κ (.b p.2) := fun κ => l1_a hg rfl
  have r2 : ∀ κ : V → Prop, pw.l1 (.p r 2) h κ = κ (.i .i64 d) := fun κ => l1_a hg rfl
  simp only [r1]
  have zero : ∀ c, endP tr p d = (XT0, c) → pw.bl (mkX Tryz.prog) 63 [] fun v51 => pw.sn 3 (.p v 0) v51 h fun h52 => pw.ln 3 (.p v 0) h52 fun v54 => Bd h52 → K (.t [v54, .i .i64 c]) h52 := by
    intro c hc
    rw [hc] at k
    refine bl_a (v := .a [.s [], .s [], .ns]) ?_ ?_
    · unfold blW
      rw [ti_some _ tt63]
      rfl
    refine sn_w V1.g (cs := [.s [], .s [], .ns]) rfl rfl V1.l rfl fun h1 g1 f1 => ?_
    rw [ln_w (sz := 3) g1 rfl]
    intro _
    exact k h1 ([], [], .ns) (f.over f1 (.inr fun z e => by cases e; exact V1.q0)) (TrA.zero _ _)
  by_cases hb : p.2 = true
  · have := zero 9 (by unfold endP; rw [if_pos (.inl hb)])
    rw [hb]
    simp only [g0_t, pk_t, cd_t]
    exact this
  · have hb' : p.2 = false := by simpa using hb
    rw [hb']
    simp only [g0_f, nl_p, fa_p, Nat.zero_add, r0, r2]
    rw [ne_s]
    by_cases hs : p.1 = []
    · have h1 : (!(p.1 == ([] : Bs))) = false := by rw [hs]; rfl
      rw [h1]
      simp only [pk_f, cd_f]
      rw [gt_i]
      by_cases hd : 8 < d
      · rw [decide_eq_true hd, cd_t]
        exact zero 2 (by unfold endP; rw [if_neg (by simp [hb', hs]), if_pos hd])
      · rw [decide_eq_false hd, cd_f]
        have hE : endP tr p d = (tr, 0) := by unfold endP; rw [if_neg (by simp [hb', hs]), if_neg hd]
        rw [hE] at k
        unfold F22_27
        rw [ln_w (sz := 3) T.g (encT_len e)]
        have one : (encT e).all oneV = true := by
          cases tr with
          | node nn tt kk =>
            obtain ⟨_, _, es', v7, _⟩ := A
            have : oneV e.2.2 = true := by
              obtain ⟨_, ⟨h1, _⟩ | ⟨_, _, _, _, h1, _⟩⟩ := v7 <;> rw [h1] <;> rfl
            show (true && (true && (oneV e.2.2 && true))) = true
            rw [this]; rfl
        refine sn_w V1.g (cs := encT e) rfl (encT_len e) V1.l one fun h1 g1 f1 => ?_
        rw [ln_w (sz := 3) g1 (encT_len e)]
        intro _
        refine k h1 e (f.over f1 (.inr fun z e => by cases e; exact V1.q0)) (A.keep ⟨f1.1, fun q hq hN => f1.2.1 q hq fun e => hN.2 (Option.some.inj e)⟩ fun q _ h => h.1)
    · have h1 : (!(p.1 == ([] : Bs))) = true := by simpa using hs
      rw [h1]
      simp only [pk_f, cd_t]
      exact zero 9 (by unfold endP; rw [if_pos (.inr hs)])

theorem ptl_ok {n : Nat} (hn : 7 ≤ n) {r v t : Nat} {d : Int} {hS : H} {cs : List V} {tr : XT} {ew : Te} {K : V → H → Prop} (hr16 : 16 ≤ r) (hrS : hS.next ≤ r) (L : Low hS) (hvr : v ≠ r) (htr : t ≠ r) {q : PS}
    (k : ∀ h' e, But hS h' none → TrA h' (fun q => hS.next ≤ q) (endP tr q d).1 e → K (.t [.a (encT e), .i .i64 (endP tr q d).2]) h') :
    ∀ (m : Nat) (p : PS) (h : H), trL m p = some q → Prs h r p.1 p.2 d → r < h.next → Var3 hS h v cs → Var3 hS h t (encT ew) → TrA h (fun q => hS.next ≤ q ∧ q ≠ v ∧ q ≠ r) tr ew → But hS h none → p.1.length < 50000 →
      F22_65 pw (mkX Tryz.prog) (Ok Tryz.prog n) (fun v h => Bd h → K v h) m (.p v 0) (.p r 0) (.p t 0) h := by
  intro m
  induction m with
  | zero => intro p h e; cases e
  | succ m ih =>
    intro p h e P hr V1 T A f hl
    have low : ∀ {h' : H}, But hS h' none → Low h' := fun f => L.keep f (fun q e => by cases e)
    have P0 := P
    obtain ⟨ty, hg⟩ := P0
    have fin : ∀ {h : H} {p : PS}, q = p → Prs h r p.1 p.2 d → Var3 hS h v cs → Var3 hS h t (encT ew) → TrA h (fun q => hS.next ≤ q ∧ q ≠ v ∧ q ≠ r) tr ew → But hS h none → F22_23 pw (mkX Tryz.prog) (Ok Tryz.prog n) (fun v h => Bd h → K v h) (.p v 0) (.p r 0) (.p t 0) h := by
      intro h p hq P V1 T A f
      subst hq
      exact pend_ok P V1 T (A.keep ⟨Nat.le_refl _, fun _ _ _ => rfl⟩ fun q _ h => ⟨h.1, h.2.1⟩) f k
    have keepA : ∀ {h h' : H}, TrA h (fun q => hS.next ≤ q ∧ q ≠ v ∧ q ≠ r) tr ew → But h h' (some r) → TrA h' (fun q => hS.next ≤ q ∧ q ≠ v ∧ q ≠ r) tr ew := fun A f => A.keep ⟨f.1, fun q hq hN => f.2.1 q hq fun e => hN.2.2 (Option.some.inj e)⟩ fun q _ h => h
    show pw.nl _ _
    simp only [nl_p, fa_p, Nat.zero_add]
    rw [l1_a hg rfl, nt_b]
    rw [trL] at e
    cases hb : p.2 with
    | true =>
      rw [if_pos hb] at e
      cases e
      simp only [Bool.not_true, g1_f, pk_f, cd_f]
      exact fin rfl P V1 T A f
    | false =>
      rw [if_neg (by rw [hb]; decide)] at e
      simp only [Bool.not_false, g1_t, cf_k]
      have lb := blP_le p
      refine blanks_ok (by omega) P hr hl fun h1 P1 f1 => ?_
      have P1 : Prs h1 r (blP p).1 (blP p).2 d := P1
      have r1 : r < h1.next := Nat.lt_of_lt_of_le hr f1.1
      have g1 := f.over f1 (.inr fun z e => by cases e; exact hrS)
      have eb : decide ((trimS blk p.1).length < p.1.length) = decide ((blP p).1.length < p.1.length) := rfl
      rw [eb]
      by_cases hs : (blP p).1.length < p.1.length
      · rw [if_pos hs] at e
        rw [decide_eq_true hs]
        simp only [g0_t, pk_t, cd_t]
        exact ih _ h1 e P1 r1 (V1.keep f1 hvr) (T.keep f1 htr) (keepA A f1) g1 (by omega)
      · rw [if_neg hs] at e
        rw [decide_eq_false hs]
        simp only [g0_f]
        cases hrm : remP (blP p) with
        | none => rw [hrm] at e; cases e
        | some v =>
          obtain ⟨bb, p2⟩ := v
          have lrm := remP_le hrm
          rw [hrm] at e
          refine rem_ok (by omega) (low g1) hr16 P1 (by omega) hrm fun h2 P2 f2 => ?_
          have g2 := g1.over f2 (.inr fun z e => by cases e; exact hrS)
          have r2 : r < h2.next := Nat.lt_of_lt_of_le r1 f2.1
          have V2 := (V1.keep f1 hvr).keep f2 hvr
          have T2 := (T.keep f1 htr).keep f2 htr
          have A2 := keepA (keepA A f1) f2
          cases bb with
          | true =>
            simp only at e
            simp only [pk_f, pk_t, cd_t]
            exact ih _ h2 e P2 r2 V2 T2 A2 g2 (by omega)
          | false =>
            simp only at e
            cases e
            simp only [pk_f, pk_t, cd_f]
            exact fin rfl P2 V2 T2 A2 g2

/-- Parse of plain signs. -/
theorem parse_ok {k n : Nat} (hn : 15 + k ≤ n) (hk : k ≤ 1000) {s : Bs} (hs : s.length ≤ 8192) (hp : plnB s) {t : XT} {c : Int} (e : parseP k s = some (t, c)) {h : H} (L : Low h) {K : V → H → Prop}
    (kk : ∀ h' e, But h h' none → TrA h' (fun q => h.next ≤ q) t e → K (.t [.a (encT e), .i .i64 c]) h') : Ok Tryz.prog n 22 [.s s] h K := by
  obtain ⟨n, rfl⟩ := Nat.exists_eq_add_of_le' (show 1 ≤ n by omega)
  refine Ok.bd (K22 fun hbd => ?_)
  unfold F22
  refine al_a tt63 fun v h1 g1 f1 v1 v2 => ?_
  rw [lg_s tt9 rfl, gt_i, decide_eq_false (show ¬ (8192 : Int) < (s.length : Nat) by omega), cd_f]
  unfold F22_4
  rw [cf_k]
  have low : ∀ {h' : H}, But h h' none → Low h' := fun f => L.keep f (fun q e => by cases e)
  refine clean_ok (by omega) (by omega) hp fun h2 f2 => ?_
  rw [nt_b]
  refine bl_a (v := .a [.s s, .b false, .i .i64 0]) ?_ ?_
  · unfold blW
    rw [ti_some _ tt97]
    rfl
  refine bx_a (cs := [.s s, .b false, .i .i64 0]) rfl fun r h3 g3 f3 r1 r2 => ?_
  have V1 : Var3 h h1 v [.s [], .s [], .ns] := ⟨g1, rfl, v1, v2⟩
  have V3 := (V1.keep0 f2).keep0 f3
  have f13 := (f1.trans f2).trans f3
  have P3 : Prs h3 r s false 0 := ⟨97, g3⟩
  have hv2 := Nat.lt_of_lt_of_le v2 f2.1
  have hvr : v ≠ r := by omega
  have hr16 : 16 ≤ r := Nat.le_trans (low (f1.trans f2)).nx r1
  have hrS : h.next ≤ r := Nat.le_trans (f1.trans f2).1 r1
  unfold parseP at e
  cases ha : ahL 100000 false (s, false) with
  | none => rw [ha] at e; cases e
  | some p1 =>
    rw [ha] at e
    have la := ahL_le _ ha
    have lw := wtP_le [60] p1
    simp only at e la
    simp only [cf_k]
    refine aheadF_ok (p := (s, false)) (by omega) hr16 (low f13) ha P3 r2 (by simp only; omega) fun h4 P4 f4 => ?_
    have f14 := f13.over f4 (.inr fun z e => by cases e; exact hrS)
    have V4 := V3.keep f4 hvr
    simp only [c22]
    refine want_ok (by omega) P4 fun h5 P5 f5 => ?_
    have f15 := f14.over f5 (.inr fun z e => by cases e; exact hrS)
    have V5 := V4.keep f5 hvr
    have P5 : Prs h5 r (wtP [60] p1).1 (wtP [60] p1).2 0 := P5
    have r5 : r < h5.next := Nat.lt_of_lt_of_le r2 (Nat.le_trans f4.1 f5.1)
    refine al_a tt63 fun tv h6 g6 f6 t1 t2 => ?_
    have f16 := f15.trans f6
    have V6 := V5.keep0 f6
    have P6 := P5.keep f6 r5 (by simp)
    have htr : tv ≠ r := by omega
    have hvt : v ≠ tv := by have := V5.q1; omega
    have r6 : r < h6.next := Nat.lt_of_lt_of_le r5 f6.1
    have T6 : Var3 h h6 tv (encT ([], [], .ns)) := ⟨g6, rfl, Nat.le_trans f15.1 t1, t2⟩
    obtain ⟨ty6, hg6⟩ := P6
    simp only [nl_p, fa_p, Nat.zero_add]
    rw [l1_a hg6 rfl, nt_b]
    cases hw : (wtP [60] p1).2 with
    | true =>
      rw [if_pos hw] at e
      have e := Option.some.inj e
      have et : t = (endP XT0 (wtP [60] p1) 0).1 := (congrArg Prod.fst e).symm
      have ec : c = (endP XT0 (wtP [60] p1) 0).2 := (congrArg Prod.snd e).symm
      subst et
      subst ec
      rw [Bool.not_true, cd_f]
      unfold F22_19
      exact ptl_ok (by omega) hr16 hrS L hvr htr (d := 0) (q := wtP [60] p1) kk 100000 (wtP [60] p1) h6 (by rw [show (100000 : Nat) = 99999 + 1 from rfl, trL, if_pos hw]) ⟨ty6, hg6⟩ r6 V6 T6 (TrA.zero _ _) f16 (by omega)
    | false =>
      rw [if_neg (by rw [hw]; decide)] at e
      rw [Bool.not_false, cd_t]
      cases hT : treeP k 1 (wtP [60] p1) 0 with
      | none => rw [hT] at e; cases e
      | some w =>
        obtain ⟨t', p3, d3⟩ := w
        rw [hT] at e
        simp only at e
        have lt := treeP_le k hT
        refine tree_ok k (by omega) 1 (by omega) (by omega) r _ _ _ _ _ h6 _ hr16 hT ⟨ty6, hg6⟩ (low f16) r6 (by omega) fun h7 e7 P7 f7 A7 => ?_
        have f17 := f16.over f7 (.inr fun z e => by cases e; exact hrS)
        have V7 := V6.keep f7 hvr
        have T7 := T6.keep f7 htr
        have one : (encT e7).all oneV = true := by
          cases t' with
          | node nn tt kk =>
            obtain ⟨_, _, es', v7, _⟩ := A7
            have : oneV e7.2.2 = true := by
              obtain ⟨_, ⟨h1, _⟩ | ⟨_, _, _, _, h1, _⟩⟩ := v7 <;> rw [h1] <;> rfl
            show (true && (true && (oneV e7.2.2 && true))) = true
            rw [this]; rfl
        refine sn_w T7.g (cs := encT e7) rfl (encT_len e7) T7.l one fun h8 g8 f8 => ?_
        have T8 : Var3 h h8 tv (encT e7) := ⟨g8, encT_len e7, T7.q0, Nat.lt_of_lt_of_le T7.q1 f8.1⟩
        have V8 := V7.keep f8 hvt
        have f18 := f17.over f8 (.inr fun z e => by cases e; exact T7.q0)
        have P8 := P7.keep f8 (Nat.lt_of_lt_of_le r6 f7.1) (fun e => htr (Option.some.inj e))
        unfold F22_19
        cases hL : trL 100000 p3 with
        | none => rw [hL] at e; cases e
        | some p4 =>
          rw [hL] at e
          have e := Option.some.inj e
          have et : t = (endP t' p4 d3).1 := (congrArg Prod.fst e).symm
          have ec : c = (endP t' p4 d3).2 := (congrArg Prod.snd e).symm
          subst et
          subst ec
          have hv6 := V6.q1
          refine ptl_ok (by omega) hr16 hrS L hvr htr (d := d3) (q := p4) kk 100000 p3 h8 hL P8 (Nat.lt_of_lt_of_le r6 (Nat.le_trans f7.1 f8.1)) V8 T8 (A7.keep ⟨f8.1, fun q hq hN => f8.2.1 q hq fun e => ?_⟩ fun q hq hN => ⟨Nat.le_trans f16.1 hN, by omega, by omega⟩) f18 (by omega)
          cases e
          omega
end Go.Proofs.YtbkhielalbbopaaGreatDoor.Wb
