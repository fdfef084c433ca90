/- Who has which address: the walk of 'Take' by a device that has none, of an address that nobody has had. -/
import Derived.Test.YtfkbofbdonmpfaaPq2
set_option linter.unusedSimpArgs false
set_option linter.unusedVariables false
set_option linter.unusedSectionVars false
set_option linter.unnecessarySimpa false
set_option maxRecDepth 100000
namespace Go.Proofs.Ytfkbofbdonmpfaa.Wb
open Go.Am

theorem push_ok {r q : Nat} {c : Option Nat} {first last now : Int} {es : List He} {e : He} {h : H} {κ : H → Prop} (ht : PL h r c first last now es) (hbd : Bd h) (hq : h.mem.get q = some (.c (encH e) 148 true)) (hl : es.length ≤ 10000)
    (K : ∀ h' c', PL h' r c' first last now (es ++ [e]) → (c' = c ∨ ∃ z, c' = some z ∧ h.next ≤ z) → But2 h h' r c → κ h') :
    pw.l1 (.p r (0 + 3)) h fun v40 => pw.ln 12 (.p q 0) h fun v41 => pw.bs xx 142 1 [(0, v41)] h fun v42 h42 => pw.ap xx 142 142 v40 v42 h42 fun v43 h43 => pw.s1 (.p r (0 + 3)) v43 h43 fun h46 => κ h46 := by
  obtain ⟨lv, mb, k, h1, h2, rfl, h3, hm, hm1, hm2⟩ := ht
  have hr := hbd _ _ h1
  have hmb := hbd _ _ hm
  have hlv := h2.lt hbd
  rw [l1_a h1 rfl, ln_w (sz := 12) hq rfl]
  refine bs_a (cs := encH e) (l := [(0 * 12, .a (encH e))]) tt142 rfl tt148 (by decide) rfl rfl fun q2 h4 hg4 hb4 hq1 hq2 => ?_
  have g1 := hb4.get hr (by simp) h1
  have gm := hb4.get hmb (by simp) hm
  have g2 := h2.keep hlv hb4 (.inr rfl)
  refine ap_vec (cs := encH e) (m := 1) tt142 rfl tt148 tt142 (by intro k e; cases e) rfl ?_ g2 rfl (encH_one _) (by unfold most; simp; omega) (by unfold most; omega) fun v5 h5 hv5 hb5 hq5 => ?_
  · simp only [fcells, hg4]
    rfl
  replace hv5 : VecE h5 v5 148 12 encH (es ++ [e]) := by
    unfold VecE
    rw [encs_app, encs_one, List.length_append]
    exact hv5
  have g5 := hb5.get (Nat.lt_of_lt_of_le hr hb4.1) (fun e => h3 e.symm) g1
  have gm5 := hb5.get (Nat.lt_of_lt_of_le hmb hb4.1) (fun e => hm2 e.symm) gm
  have hne : ∀ z, z < h.next → vblk lv ≠ some z → vblk v5 ≠ some z := by
    intro z hz hz2
    rcases hq5 with h | ⟨h, _⟩
    · rw [h]; exact hz2
    · rw [h]; intro e; cases e; have := hb4.1; omega
  have one5 : oneV v5 = true := by rcases hv5 with ⟨_, ⟨rfl, _⟩ | ⟨_, _, _, _, rfl, _⟩⟩ <;> rfl
  refine s1_a (o := 0 + 3) g5 (by simp) one5 fun h6 hg6 hb6 => ?_
  have hlt5 : ∀ q, vblk v5 = some q → q < h5.next := by
    intro z hz
    rcases hq5 with h | ⟨h, h'⟩
    · rw [h] at hz
      exact Nat.lt_of_lt_of_le (hlv z hz) (Nat.le_trans hb4.1 hb5.1)
    · rw [h] at hz; cases hz; exact h'
  refine K h6 (vblk v5) ⟨v5, mb, k, hg6, hv5.keep hlt5 hb6 (.inl (hne r hr h3)), rfl, hne r hr h3, hb6.get (Nat.lt_of_lt_of_le hmb (Nat.le_trans hb4.1 hb5.1)) (by intro e; cases e; exact hm1 rfl) gm5, hm1, hne mb hmb hm2⟩ ?_ (((hb4.two (.inl rfl)).trans (hb5.two (.inr (.inr rfl)))).trans (hb6.two (.inr (.inl rfl))))
  rcases hq5 with h | ⟨h, _⟩
  · exact .inl h
  · exact .inr ⟨h4.next, h, hb4.1⟩

/-- 'may', of an address of the pool that nobody has had. -/
theorem may_ok {n : Nat} (hn : 4 ≤ n) {r : Nat} {c : Option Nat} {first last now a m : Int} (hnow : 0 ≤ now) (ha : 0 ≤ a ∧ a ≤ 255) (hin : first ≤ a ∧ a ≤ last) {es : List He} (hl : es.length ≤ 10000) (hno : ∀ e ∈ es, e.l.a ≠ a) {h : H} {K : V → H → Prop} (ht : PL h r c first last now es)
    (hk : ∀ h', Bd h' → But h h' none → K (.i .i64 0) h') : Ok Try.prog n 89 [.p r 0, .a (maV m), .a (adV a)] h K := by
  obtain ⟨n, rfl⟩ := Nat.exists_eq_add_of_le' hn
  refine Ok.bd (K89 (n := n + 3) fun hbd => ?_)
  simp only [F89]
  refine bx_a (cs := maV m) rfl fun p h1 hp hb1 _ hp2 => ?_
  refine bx_a (cs := adV a) rfl fun q h2 hq hb2 _ hq2 => ?_
  have hb02 := hb1.trans hb2
  have hp' := hb2.get hp2 (by simp) hp
  have hbd2 := hb02.2.2 hbd
  rw [ln_w (sz := 6) hp' rfl, cf_k]
  refine kept_ok (by omega) (ht.keep hbd hb02) fun h3 hbd3 hb3 => ?_
  simp (disch := omega) only [ws, List.getElem?_cons_zero, List.getElem?_cons_succ]
  refine al_a tt28 fun z h4 hz hb4 hz1 hz2 => ?_
  refine sn_w (w := .a [.i .u8 0, .i .u8 0, .i .u8 0, .i .u8 0]) (cs := [.i .u8 0, .i .u8 0, .i .u8 0, .i .u8 0]) hz rfl rfl rfl rfl fun h5 hg5 hb5 => ?_
  have hb35 : But h3 h5 none := hb4.over hb5 (.inr fun r e => by cases e; exact hz1)
  have hb05 := (hb02.trans hb3).trans hb35
  have hq5 := (hb3.trans hb35).get hq2 (by simp) hq
  have hbd5 := hb35.2.2 hbd3
  have hql : q < h5.next := Nat.lt_of_lt_of_le hq2 (Nat.le_trans hb3.1 hb35.1)
  have hf : fndP (isA a) es 0 = -1 := fndP_none fun e he => by simp [isA, hno e he]
  simp only [F89_7]
  rw [ln_w (sz := 4) hq5 rfl, cf_k]
  refine of_ok' (by omega) (ht.keep hbd hb05) hl fun h6 hbd6 hb6 => ?_
  rw [hf, cf_k]
  refine live_no (by omega) (by omega) fun _ => ?_
  have hb56 := hb6
  have hq6 := hb6.get hql (by simp) hq5
  simp (disch := omega) only [ws, ln_w (sz := 4) hq6 rfl]
  refine has_ok (by omega) ha (ht.keep hbd (hb05.trans hb6)) fun h7 hbd7 hb7 => ?_
  have e1 : inP first last a = true := by simp [inP, hin.1, hin.2]
  have hq7 := hb7.get (Nat.lt_of_lt_of_le hql hb6.1) (by simp) hq6
  simp (disch := omega) only [ws, e1, Bool.not_true, Bool.not_false]
  refine live_no (by omega) (by omega) fun _ => ?_
  simp (disch := omega) only [ws, ln_w (sz := 4) hq7 rfl]
  refine barred_ok (by omega) hnow (ht.keep hbd ((hb05.trans hb6).trans hb7)) fun h8 hbd8 hb8 => ?_
  simp (disch := omega) only [ws, F89_43]
  intro hb
  exact hk h8 hb (((hb05.trans hb6).trans hb7).trans hb8)

set_option maxHeartbeats 1000000 in
theorem take_ok {n : Nat} (hn : 5 ≤ n) {r : Nat} {c : Option Nat} {first last tn t a m s : Int} (hT : 0 ≤ timeP tn t ∧ timeP tn t ≤ 1099511627776) (hs : 1 ≤ s ∧ s ≤ 1000000000) (ha : 0 ≤ a ∧ a ≤ 255) (hin : first ≤ a ∧ a ≤ last) {es : List He} (hl : es.length ≤ 10000) (hno : ∀ e ∈ es, e.l.a ≠ a ∧ e.l.m ≠ m) {h : H} {K : V → H → Prop} (ht : PL h r c first last tn es)
    (hk : ∀ h' c', Bd h' → PL h' r c' first last (timeP tn t) (es ++ [⟨⟨m, a, timeP tn t + s⟩, false⟩]) → (c' = c ∨ ∃ z, c' = some z ∧ h.next ≤ z) → But2 h h' r c → K (.i .i64 0) h') : Ok Try.prog n 42 [.p r 0, .a (maV m), .a (adV a), .i .i64 t, .i .i64 s] h K := by
  obtain ⟨n, rfl⟩ := Nat.exists_eq_add_of_le' hn
  refine Ok.bd (K42 (n := n + 4) fun hbd => ?_)
  obtain ⟨hr, hc⟩ := ht.lt hbd
  simp only [F42]
  refine bx_a (cs := maV m) rfl fun p h1 hp hb1 hp1 hp2 => ?_
  refine bx_a (cs := adV a) rfl fun q h2 hq hb2 hq1 hq2 => ?_
  have hb02 := hb1.trans hb2
  have hp' := hb2.get hp2 (by simp) hp
  rw [cf_k]
  refine time_ok (by omega) (ht.keep hbd hb02) fun h3 hbd3 hb3 ht3 => ?_
  generalize timeP tn t = T at hT hk ht3 ⊢
  have hp3 := hb3.get (Nat.lt_of_lt_of_le hp2 hb2.1) (by intro e; cases e; omega) hp'
  have hq3 := hb3.get hq2 (by intro e; cases e; have := hb1.1; omega) hq
  have hpl : p < h3.next := Nat.lt_of_lt_of_le hp2 (Nat.le_trans hb2.1 hb3.1)
  have hql : q < h3.next := Nat.lt_of_lt_of_le hq2 hb3.1
  have hb03 : But2 h h3 r c := (hb02.two (.inl rfl)).trans (hb3.two (.inr (.inl rfl)))
  rw [cf_k]
  refine secs_ok (by omega) fun _ => ?_
  simp (disch := omega) only [ws, dec_t, Bool.and_self, Bool.not_true, F42_13, ln_w (sz := 6) hp3 rfl, ln_w (sz := 4) hq3 rfl]
  refine may_ok (by omega) hT.1 ha hin hl (fun e he => (hno e he).1) ht3 fun h4 hbd4 hb4 => ?_
  have hp4 := hb4.get hpl (by simp) hp3
  have hq4 := hb4.get hql (by simp) hq3
  simp (disch := omega) only [ws, decide_true, dec_t, Bool.not_true, F42_19, ln_w (sz := 6) hp4 rfl]
  refine by_ok (by omega) (ht3.keep hbd3 hb4) hl fun h5 hbd5 hb5 => ?_
  have hf : fndP (isM T m) es 0 = -1 := fndP_none fun e he => by simp [isM, (hno e he).2]
  have hb35 := hb4.trans hb5
  have hp5 := hb35.get hpl (by simp) hp3
  have hq5 := hb35.get hql (by simp) hq3
  simp (disch := omega) only [ws, hf, dec_f, F42_25, ln_w (sz := 6) hp5 rfl, ln_w (sz := 4) hq5 rfl]
  refine bl_a (v := .a (encL ⟨m, a, T + s⟩)) ?_ ?_
  · simp only [blW, ti, tt92, placesSt, maV, adV, cellsOfV, List.getElem?_cons_zero, List.getElem?_cons_succ, fillA]; rfl
  refine bl_a (v := .a (encH ⟨⟨m, a, T + s⟩, false⟩)) ?_ ?_
  · simp only [blW, ti, tt148, placesSt, encL, cellsOfV, List.getElem?_cons_zero, List.getElem?_cons_succ, fillA]; rfl
  refine al_a tt148 fun z h6 hz hb6 hz1 hz2 => ?_
  refine sn_w (w := .a (encH ⟨⟨m, a, T + s⟩, false⟩)) (cs := encH ⟨⟨m, a, T + s⟩, false⟩) hz rfl rfl rfl rfl fun h7 hg7 hb7 => ?_
  have hb57 : But h5 h7 none := hb6.over hb7 (.inr fun r e => by cases e; exact hz1)
  have hb37 := hb35.trans hb57
  have hq7 := hb37.get hql (by simp) hq3
  have hzl : z < h7.next := Nat.lt_of_lt_of_le hz2 hb7.1
  rw [ln_w (sz := 4) hq7 rfl]
  refine of_ok' (by omega) (ht3.keep hbd3 hb37) hl fun h8 hbd8 hb8 => ?_
  have hf2 : fndP (isA a) es 0 = -1 := fndP_none fun e he => by simp [isA, (hno e he).1]
  have hb38 := hb37.trans hb8
  simp (disch := omega) only [ws, hf2, dec_f]
  refine push_ok (ht3.keep hbd3 hb38) hbd8 (hb8.get hzl (by simp) hg7) hl fun h9 c' ht9 hc9 hb9 => ?_
  simp only [F42_40]
  intro hbd9
  refine hk h9 c' hbd9 ht9 ?_ ((hb03.trans (hb38.two (.inl rfl))).trans hb9)
  rcases hc9 with h | ⟨z, h, hz⟩
  · exact .inl h
  · exact .inr ⟨z, h, Nat.le_trans hb03.1 (Nat.le_trans hb38.1 hz)⟩
end Go.Proofs.Ytfkbofbdonmpfaa.Wb
