/- Which port is whose: the walks of 'Make', 'In', 'Len', 'New' and of the law's own 'at'. -/
import Derived.Test.YtbkhielalbbopaaGreatDoorYo4
set_option linter.unusedSimpArgs false
set_option linter.unusedVariables false
set_option linter.unusedSectionVars false
set_option linter.unnecessarySimpa false
set_option maxRecDepth 100000
namespace Go.Proofs.YtbkhielalbbopaaGreatDoor.Wb
open Go.Am

def m0 : Mp := ⟨0, 0, ⟨0, 0, 0, 0⟩, 0, 0, 0⟩
def okA (f : Fl) (secs : Int) : Prop := okP f.p = true ∧ leastP f.p ≤ f.po ∧ f.po ≤ 65535 ∧ 1 ≤ secs ∧ secs ≤ 1000000000
def upE (e : Mp) (u : Int) : Mp := if e.kd = 1 then { e with un := u } else e
def newE (f : Fl) (o u : Int) : Mp := ⟨f.p, o, f.ad, f.po, 1, u⟩

/-- What 'Make' may do. -/
inductive MkP (low room T : Int) (f : Fl) (secs : Int) (es : List Mp) : List Mp → V → Prop
  | arg : ¬ okA f secs → MkP low room T f secs es es (.t [.a (encM m0), .i .i64 1])
  | out (j : Nat) (h : j < es.length) : okA f secs → outE f T es[j] = true → MkP low room T f secs es (es.set j (upE es[j] (T + secs))) (.t [.a (encM (upE es[j] (T + secs))), .i .i64 0])
  | full : okA f secs → (∀ e ∈ es, outE f T e = false) → (room ≤ cntL T es ∨ ∀ z, low ≤ z → z ≤ 65535 → ¬ freeP f.p z T es) → MkP low room T f secs es es (.t [.a (encM m0), .i .i64 7])
  | new (o : Int) : okA f secs → (∀ e ∈ es, outE f T e = false) → (cntL T es : Int) < room → freeP f.p o T es → (low ≤ f.po ∧ o = f.po ∨ ¬ (low ≤ f.po ∧ freeP f.p f.po T es) ∧ low ≤ o ∧ o ≤ 65535 ∧ ∀ z, low ≤ z → z < o → ¬ freeP f.p z T es) → MkP low room T f secs es (es.filter (fun e => !sameE (newE f o (T + secs)) e) ++ [newE f o (T + secs)]) (.t [.a (encM (newE f o (T + secs))), .i .i64 0])

theorem blm0 : blW xx 55 [] = some (.a (encM m0)) := by
  simp only [blW, ti, tt55, placesSt, cellsOfV, fillA]; rfl

theorem get99 {n : Nat} {r q j : Nat} {c : Option Nat} {low room now : Int} {es : List Mp} {l : List V} {h : H} {K : V → H → Prop} (ht : PT h r c low room now es) (hj : j < es.length) (hq : h.mem.get q = some (.c l 55 true)) (hl : l.length = 9)
    (hk : ∀ h', But h h' (some q) → K (.t [.a (encM es[j]), .i .i64 0]) h') : F25_99 pw xx (Ok Tryz.prog n) K (.p r 0) (.p q 0) (.i .i64 (j : Nat)) h := by
  obtain ⟨lv, h1, h2, h3⟩ := ht
  have r3 : ∀ κ : V → Prop, pw.l1 (.p r (0 + 3)) h κ = κ lv := fun κ => l1_a h1 rfl
  simp (disch := omega) only [F25_99, ws, r3]
  refine vece_at encM_len h2 (i := j) rfl hj fun b ha => ?_
  rw [ha.all]
  refine sn_w (w := .a (encM es[j])) (cs := encM es[j]) hq rfl (encM_len _) hl (encM_one _) fun h4 hq4 hb4 => ?_
  rw [ln_w (sz := 9) hq4 rfl]
  exact hk h4 hb4

set_option maxHeartbeats 2000000 in
theorem make_ok {n : Nat} (hn : 6 ≤ n) {r : Nat} {c : Option Nat} {low room tn t secs : Int} {es : List Mp} {f : Fl} {h : H} {K : V → H → Prop} (ht : PT h r c low room tn es) (hl : es.length ≤ 9999) (hlow : 1024 ≤ low ∧ low ≤ 60000) (hT : 0 ≤ timeP tn t ∧ timeP tn t ≤ 1099511627776)
    (hk : ∀ h' c' es' v, Bd h' → But2 h h' r c → (c' = c ∨ ∃ z, c' = some z ∧ h.next ≤ z) → PT h' r c' low room (timeP tn t) es' → MkP low room (timeP tn t) f secs es es' v → K v h') : Ok Tryz.prog n 25 [.p r 0, .a (encF f), .i .i64 t, .i .i64 secs] h K := by
  obtain ⟨n, rfl⟩ := Nat.exists_eq_add_of_le' hn
  refine Ok.bd (K25 (n := n + 5) fun hbd => ?_)
  simp (disch := omega) only [F25]
  refine bx_a (cs := encF f) rfl fun fb h1 hfb hb1 hf1 hf2 => ?_
  refine al_a tt55 fun q h2 hq hb2 hq1 hq2 => ?_
  have hb02 := hb1.trans hb2
  have hbd2 := hb02.2.2 hbd
  obtain ⟨hr, hc⟩ := ht.lt hbd
  rw [cf_k]
  refine time_ok (by omega) (ht.keep hbd hb02) fun h3 hbd3 hb3 ht3 => ?_
  generalize timeP tn t = T at hT hk ht3 ⊢
  have hb03 : But2 h h3 r c := (hb02.two (.inl rfl)).trans (hb3.two (.inr (.inl rfl)))
  have hfb3 := hb3.get (Nat.lt_of_lt_of_le hf2 hb2.1) (by intro e; cases e; omega) (hb2.get hf2 (by simp) hfb)
  have hq3 := hb3.get hq2 (by intro e; cases e; have := hb1.1; omega) hq
  have hfl : fb < h3.next := Nat.lt_of_lt_of_le hf2 (Nat.le_trans hb2.1 hb3.1)
  have hql : q < h3.next := Nat.lt_of_lt_of_le hq2 hb3.1
  have hqh : h.next ≤ q := Nat.le_trans hb1.1 hq1
  have f0 : ∀ κ : V → Prop, pw.l1 (.p fb (0 + 0)) h3 κ = κ (.i .i64 f.p) := fun κ => l1_a hfb3 rfl
  have f5 : ∀ κ : V → Prop, pw.l1 (.p fb (0 + 5)) h3 κ = κ (.i .i64 f.po) := fun κ => l1_a hfb3 rfl
  -- an error: nothing is kept but the time
  have err : ∀ (h4 : H) (k : Int) (v : V), Bd h4 → But h3 h4 none → MkP low room T f secs es es (.t [.a (encM m0), .i .i64 k]) → pw.bl xx 55 [] (fun v159 => pw.sn 9 (.p q 0) v159 h4 fun h160 => pw.ln 9 (.p q 0) h160 fun v162 => Bd h160 → K (.t [v162, (.i .i64 k)]) h160) := by
    intro h4 k v hbd4 hb4 hm
    refine bl_a blm0 ?_
    refine sn_w (w := .a (encM m0)) (cs := encM m0) (hb4.get hql (by simp) hq3) rfl (encM_len _) rfl (encM_one _) fun h5 hq5 hb5 => ?_
    rw [ln_w (sz := 9) hq5 rfl]
    intro hbd5
    have ht4 := ht3.keep hbd3 hb4
    obtain ⟨lv, g1, g2, rfl, g3⟩ := ht4
    have hqr : r ≠ q := Nat.ne_of_lt (Nat.lt_of_lt_of_le hr hqh)
    have hqc : ∀ z, vblk lv = some z → z ≠ q := fun z hz e => by have := hc z hz; omega
    refine hk h5 _ es _ hbd5 ((hb03.trans (hb4.two (.inl rfl))).over (p := vblk lv) (q := some q) (hb5.two (.inr (.inr rfl))) (.inr fun z e => by cases e; exact hqh)) (.inl rfl) ⟨lv, hb5.get (hbd4 _ _ g1) (by intro e; cases e; exact hqr rfl) g1, g2.keep (g2.lt hbd4) hb5 (.inl fun e => hqc q e rfl), rfl, g3⟩ hm
  simp (disch := omega) only [ws, f0]
  refine least_ok (by omega) fun _ => ?_
  by_cases c1 : okP f.p = true
  rotate_left
  · replace c1 : okP f.p = false := by simpa using c1
    simp (disch := omega) only [ws, c1, f0, List.getElem?_cons_zero, List.getElem?_cons_succ, Bool.not_false]
    exact err h3 1 .np hbd3 (But.refl _ _) (.arg fun h => by have h := h.1; rw [c1] at h; cases h)
  simp (disch := omega) only [ws, c1, f0, f5, List.getElem?_cons_zero, List.getElem?_cons_succ, Bool.not_true]
  refine within_ok (by omega) fun _ => ?_
  by_cases c2 : leastP f.p ≤ f.po ∧ f.po ≤ 65535
  rotate_left
  · have e2 : (decide (leastP f.p ≤ f.po) && decide (f.po ≤ 65535)) = false := by
      rw [Bool.and_eq_false_iff, decide_eq_false_iff_not, decide_eq_false_iff_not]; omega
    simp (disch := omega) only [ws, e2, Bool.not_false]
    exact err h3 1 .np hbd3 (But.refl _ _) (.arg fun h => c2 ⟨h.2.1, h.2.2.1⟩)
  have e2 : (decide (leastP f.p ≤ f.po) && decide (f.po ≤ 65535)) = true := by
    rw [Bool.and_eq_true, decide_eq_true_iff, decide_eq_true_iff]; exact c2
  by_cases c3 : secs < 1
  · simp (disch := omega) only [ws, e2, Bool.not_true, dec_t c3]
    exact err h3 1 .np hbd3 (But.refl _ _) (.arg fun h => by have := h.2.2.2.1; omega)
  by_cases c4 : 1000000000 < secs
  · simp (disch := omega) only [ws, e2, Bool.not_true, dec_f c3, dec_t c4]
    exact err h3 1 .np hbd3 (But.refl _ _) (.arg fun h => by have := h.2.2.2.2; omega)
  have hok : okA f secs := ⟨c1, c2.1, c2.2, by omega, by omega⟩
  simp (disch := omega) only [ws, e2, Bool.not_true, dec_f c3, dec_f c4, F25_20, ln_w (sz := 6) hfb3 rfl]
  refine out_ok (by omega) ht3 (by omega) fun h4 b hbd4 hb4 ho => ?_
  have hb04 : But2 h h4 r c := hb03.trans (hb4.two (.inl rfl))
  have ht4 := ht3.keep hbd3 hb4
  have hq4 := hb4.get hql (by simp) hq3
  have hfb4 := hb4.get hfl (by simp) hfb3
  rcases ho with ⟨rfl, hno⟩ | ⟨j, rfl, hj, hj2⟩
  · simp (disch := omega) only [ws, dec_f, F25_26]
    refine count_ok (by omega) ht4 (by omega) fun h5 hbd5 hb5 => ⟨fun z hz => hb5.2.1 z hz (by simp), ?_⟩
    obtain ⟨lv, g1, g2, g3⟩ := id ht4
    have r1 : ∀ κ : V → Prop, pw.l1 (.p r (0 + 1)) h4 κ = κ (.i .i64 room) := fun κ => l1_a g1 rfl
    have hb35 := hb4.trans hb5
    have ht5 := ht3.keep hbd3 hb35
    have hfb5 := hb5.get (hbd4 _ _ hfb4) (by simp) hfb4
    by_cases c5 : room ≤ (cntL T es : Int)
    · simp (disch := omega) only [ws, r1, dec_t c5]
      exact err h5 7 .np hbd5 hb35 (.full hok hno (.inl c5))
    simp (disch := omega) only [ws, r1, dec_f c5, F25_32, ln_w (sz := 6) hfb5 rfl]
    have fin : ∀ (o : Int) (h6 : H), Bd h6 → But h5 h6 none → MkP low room T f secs es (es.filter (fun e => !sameE (newE f o (T + secs)) e) ++ [newE f o (T + secs)]) (.t [.a (encM (newE f o (T + secs))), .i .i64 0]) → F25_47 pw xx (Ok Tryz.prog (n + 5)) (fun v h' => Bd h' → K v h') (.p r 0) (.i .i64 T) (.i .i64 secs) (.p fb 0) (.p q 0) (.i .i64 o) h6 := by
      intro o h6 hbd6 hb6 hm
      have hb36 := hb35.trans hb6
      have ht6 := ht3.keep hbd3 hb36
      have hq6 := hb36.get hql (by simp) hq3
      have hfb6 := hb36.get hfl (by simp) hfb3
      have f0 : ∀ κ : V → Prop, pw.l1 (.p fb (0 + 0)) h6 κ = κ (.i .i64 f.p) := fun κ => l1_a hfb6 rfl
      have f5 : ∀ κ : V → Prop, pw.l1 (.p fb (0 + 5)) h6 κ = κ (.i .i64 f.po) := fun κ => l1_a hfb6 rfl
      have f1 : ∀ κ : V → Prop, pw.ln 4 (.p fb (0 + 1)) h6 κ = κ (.a (encA f.ad)) := fun κ => by rw [ln_a (sz := 4) hfb6 (by simp [encF])]; rfl
      simp (disch := omega) only [F25_47, ws, f0, f1, f5]
      refine bl_a (v := .a (encM (newE f o (T + secs)))) ?_ ?_
      · simp only [blW, ti, tt55, placesSt, encA, cellsOfV, List.getElem?_cons_zero, List.getElem?_cons_succ, fillA]; rfl
      generalize newE f o (T + secs) = m at hm ⊢
      refine al_a tt55 fun q2 h7 g7 k7 p7 p7' => ?_
      refine sn_w (w := .a (encM m)) (cs := encM m) g7 rfl (encM_len _) rfl (encM_one _) fun h8 g8 k8 => ?_
      rw [ln_w (sz := 9) g8 rfl]
      have k68 : But h6 h8 none := k7.over k8 (.inr fun z e => by cases e; exact p7)
      have hb38 := hb36.trans k68
      refine add_ok (by omega) (ht3.keep hbd3 hb38) (by omega) fun h9 c9 hbd9 ht9 hc9 hb9 => ?_
      have q2l : q2 < h8.next := Nat.lt_of_lt_of_le p7' k8.1
      have q2h : h.next ≤ q2 := Nat.le_trans hb03.1 (Nat.le_trans hb36.1 p7)
      have hcq : c ≠ some q := fun e => by have := hc q e; omega
      have hcq2 : c ≠ some q2 := fun e => by have := hc q2 e; omega
      have g9 := hb9.get q2l (by omega) (fun e => hcq2 e.symm) g8
      have hq8 := hb38.get hql (by simp) hq3
      have hq9 := hb9.get (Nat.lt_of_lt_of_le hql hb38.1) (by omega) (fun e => hcq e.symm) hq8
      rw [ln_w (sz := 9) g9 rfl]
      refine sn_w (w := .a (encM m)) (cs := encM m) hq9 rfl (encM_len _) rfl (encM_one _) fun h10 g10 k10 => ?_
      rw [ln_w (sz := 9) g10 rfl]
      intro hbd10
      have hb39 : But2 h h9 r c := (hb03.trans (hb38.two (.inl rfl))).trans hb9
      obtain ⟨lv9, a1, a2, rfl, a3⟩ := ht9
      have hc9q : vblk lv9 ≠ some q := by
        intro e
        rcases hc9 with h | ⟨z, h, hz⟩
        · exact hcq (h.symm.trans e)
        · rw [h] at e
          cases e
          have := hb38.1
          omega
      refine hk h10 (vblk lv9) _ _ hbd10 (hb39.over (p := c) (q := some q) (k10.two (.inr (.inr rfl))) (.inr fun z e => by cases e; exact hqh)) ?_ ⟨lv9, k10.get (hbd9 _ _ a1) (by intro e; cases e; omega) a1, a2.keep (a2.lt hbd9) k10 (.inl hc9q), rfl, a3⟩ hm
      rcases hc9 with h | ⟨z, h, hz⟩
      · exact .inl h
      · exact .inr ⟨z, h, Nat.le_trans hb03.1 (Nat.le_trans hb38.1 hz)⟩
    refine port_ok (by omega) ht5 (by omega) hlow (fun h6 hbd6 hb6 p1 p2 => ?_) (fun h6 o hbd6 hb6 p1 p2 p3 p4 p5 => ?_) (fun h6 hbd6 hb6 p1 => ?_)
    · simp (disch := omega) only [ws, List.getElem?_cons_zero, List.getElem?_cons_succ, Bool.not_true]
      exact fin f.po h6 hbd6 hb6 (.new f.po hok hno (by omega) p2 (.inl ⟨p1, rfl⟩))
    · simp (disch := omega) only [ws, List.getElem?_cons_zero, List.getElem?_cons_succ, Bool.not_true]
      exact fin o h6 hbd6 hb6 (.new o hok hno (by omega) p4 (.inr ⟨p1, p2, p3, p5⟩))
    · simp (disch := omega) only [ws, List.getElem?_cons_zero, List.getElem?_cons_succ, Bool.not_false]
      exact err h6 7 .np hbd6 (hb35.trans hb6) (.full hok hno (.inr p1))
  · obtain ⟨lv, g1, g2, rfl, g4⟩ := id ht4
    have r3 : ∀ κ : V → Prop, pw.l1 (.p r (0 + 3)) h4 κ = κ lv := fun κ => l1_a g1 rfl
    simp (disch := omega) only [ws, dec_t, r3]
    refine vece_at encM_len g2 (i := j) rfl hj fun b1 ha1 => ?_
    rw [fa_p, ha1.get (x := .i .i64 es[j].kd) rfl]
    have hqr : r ≠ q := Nat.ne_of_lt (Nat.lt_of_lt_of_le hr hqh)
    have hcq : vblk lv ≠ some q := fun e => by have := hc q e; omega
    have fin : ∀ (h5 : H) (e' : Mp), Bd h5 → But2 h h5 r (vblk lv) → PT h5 r (vblk lv) low room T (es.set j e') → h5.mem.get q = some (.c [.i .i64 0, .i .i64 0, .i .u8 0, .i .u8 0, .i .u8 0, .i .u8 0, .i .i64 0, .i .i64 0, .i .i64 0] 55 true) → e' = upE es[j] (T + secs) → F25_99 pw xx (Ok Tryz.prog (n + 5)) (fun v h' => Bd h' → K v h') (.p r 0) (.p q 0) (.i .i64 (j : Nat)) h5 := by
      intro h5 e' hbd5 hb5 ht5 hq5 he
      refine get99 ht5 (j := j) (by rw [List.length_set]; exact hj) hq5 rfl fun h6 hb6 hbd6 => ?_
      have e6 : (es.set j e')[j]'(by rw [List.length_set]; exact hj) = e' := by simp
      rw [e6]
      obtain ⟨lv5, a1, a2, a3, a4⟩ := ht5
      subst he
      refine hk h6 (vblk lv) _ _ hbd6 (hb5.over (p := vblk lv) (q := some q) (hb6.two (.inr (.inr rfl))) (.inr fun z e => by cases e; exact hqh)) (.inl rfl) ⟨lv5, hb6.get (hbd5 _ _ a1) (by intro e; cases e; exact hqr rfl) a1, a2.keep (a2.lt hbd5) hb6 (.inl (by rw [a3]; exact hcq)), a3, a4⟩ (.out j hj hok hj2)
    by_cases c6 : es[j].kd = 1
    · simp (disch := omega) only [ws, dec_t c6, r3]
      refine vece_at encM_len g2 (i := j) rfl hj fun b2 ha2 => ?_
      rw [fa_p]
      refine vece_set1 encM_len g2 (i := j) hj ha2.blk (f := 8) (by omega) rfl (e' := { es[j] with un := T + secs }) rfl fun h5 hv5 hb5 => ?_
      have hbd5 := hb5.2.2 hbd4
      refine fin h5 _ hbd5 (hb04.trans (hb5.two (.inr (.inr rfl)))) ⟨lv, hb5.get (hbd4 _ _ g1) (fun e => g4 e.symm) g1, hv5, rfl, g4⟩ (hb5.get (hbd4 _ _ hq4) (fun e => hcq e.symm) hq4) (by rw [upE, if_pos c6])
    · simp (disch := omega) only [ws, dec_f c6]
      have e7 : upE es[j] (T + secs) = es[j] := by rw [upE, if_neg c6]
      refine fin h4 es[j] hbd4 hb04 (by rw [List.set_getElem_self]; exact ht4) hq4 e7.symm
end Go.Proofs.YtbkhielalbbopaaGreatDoor.Wb
