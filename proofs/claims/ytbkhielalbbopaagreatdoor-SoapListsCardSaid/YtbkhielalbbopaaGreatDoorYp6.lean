/- Ports put and dropped. -/
import Derived.Test.YtbkhielalbbopaaGreatDoorYp5
import Derived.Test.YtbkhielalbbopaaGreatDoorYo6
set_option linter.unusedSimpArgs false
set_option linter.unusedVariables false
set_option linter.unusedSectionVars false
set_option linter.unnecessarySimpa false
set_option maxRecDepth 100000
namespace Go.Proofs.YtbkhielalbbopaaGreatDoor.Wb
open Go Go.Am Go.Am.Xm

def drE (p o k : Int) (e : Mp) : Bool := decide (e.p = p) && (decide (e.o = o) && decide (e.kd = k))

theorem cl103_ok {n : Nat} (hn : 1 ≤ n) {e : Mp} {a b d : Nat} {p o kd : Int} {h : H} {t1 t2 t3 : TypeId} {K : V → H → Prop} (ha : h.mem.get a = some (.c [.i .i64 p] t1 true)) (hb : h.mem.get b = some (.c [.i .i64 o] t2 true)) (hd : h.mem.get d = some (.c [.i .i64 kd] t3 true))
    (hk : ∀ h', Bd h' → But h h' none → K (.b (drE p o kd e)) h') : Ok Tryz.prog n 103 [.a (encM e), .p a 0, .p b 0, .p d 0] h K := by
  obtain ⟨n, rfl⟩ := Nat.exists_eq_add_of_le' hn
  refine Ok.bd (K103 (n := n) fun hbd => ?_)
  simp (disch := omega) only [F103]
  refine bx_a (cs := encM e) rfl fun q h1 hq hk1 _ _ => ?_
  have ha1 := hk1.get (hbd _ _ ha) (by simp) ha
  have hb1 := hk1.get (hbd _ _ hb) (by simp) hb
  have hd1 := hk1.get (hbd _ _ hd) (by simp) hd
  simp only [fa_p, l1_a hq (show (encM e)[0 + 0]? = some (.i .i64 e.p) from rfl), l1_a ha1 (show [V.i .i64 p][0]? = some (.i .i64 p) from rfl), eq_i]
  by_cases c1 : e.p = p
  · simp (disch := omega) only [ws, dec_t c1, l1_a hq (show (encM e)[0 + 1]? = some (.i .i64 e.o) from rfl), l1_a hb1 (show [V.i .i64 o][0]? = some (.i .i64 o) from rfl)]
    by_cases c2 : e.o = o
    · simp (disch := omega) only [ws, dec_t c2, l1_a hq (show (encM e)[0 + 7]? = some (.i .i64 e.kd) from rfl), l1_a hd1 (show [V.i .i64 kd][0]? = some (.i .i64 kd) from rfl)]
      intro hbd'
      have := hk h1 hbd' hk1
      rw [drE, decide_eq_true c1, decide_eq_true c2, Bool.true_and, Bool.true_and] at this
      exact this
    · simp (disch := omega) only [ws, dec_f c2]
      intro hbd'
      have := hk h1 hbd' hk1
      rw [drE, decide_eq_false c2, Bool.false_and, Bool.and_false] at this
      exact this
  · simp (disch := omega) only [ws, dec_f c1]
    intro hbd'
    have := hk h1 hbd' hk1
    rw [drE, decide_eq_false c1, Bool.false_and] at this
    exact this

theorem drop_ok {n : Nat} (hn : 5 ≤ n) {r : Nat} {c : Option Nat} {low room tn p o kd : Int} {es : List Mp} {h : H} {K : V → H → Prop} (ht : PT h r c low room tn es) (hl : es.length ≤ 10000)
    (hk : ∀ h' b, Bd h' → But2 h h' r c → PT h' r c low room tn (es.filter fun e => !drE p o kd e) → K (.b b) h') : Ok Tryz.prog n 65 [.p r 0, .i .i64 p, .i .i64 o, .i .i64 kd] h K := by
  obtain ⟨n, rfl⟩ := Nat.exists_eq_add_of_le' hn
  refine Ok.bd (K65 (n := n + 4) fun hbd => ?_)
  simp (disch := omega) only [F65]
  refine bx_a (cs := [.i .i64 p]) rfl fun q1 h1 hq1 hb1 k1 hl1 => ?_
  refine bx_a (cs := [.i .i64 o]) rfl fun q2 h2 hq2 hb2 k2 hl2 => ?_
  refine bx_a (cs := [.i .i64 kd]) rfl fun q3 h3 hq3 hb3 k3 hl3 => ?_
  have hb13 := hb2.trans hb3
  have hb03 := hb1.trans hb13
  have ht3 := ht.keep hbd hb03
  obtain ⟨hr, hlt⟩ := ht.lt hbd
  obtain ⟨lv, g1, g2, rfl, g4⟩ := ht3
  have e1 := hb13.get hl1 (by simp) hq1
  have e2 := hb3.get hl2 (by simp) hq2
  have hbd3 := hb03.2.2 hbd
  rw [cf_k]
  refine Ok.bd (K102 (n := n + 3) fun _ => ?_)
  simp (disch := omega) only [F102]
  rw [nl_p, fa_p, l1_a g1 rfl, vece_len tt84 rfl g2, nl_p, fa_p, l1_a g1 rfl, cf_k]
  have n1 := hb1.1
  have n2 := hb2.1
  have n3 := hb3.1
  have nv : ∀ q, h.next ≤ q → some q ≠ vblk lv := fun q h4 e => by have := hlt q e.symm; omega
  have mkc : ∀ k, 1 ≤ k → ClP Tryz.prog k h3 (vblk lv) (.f 103 [.p q1 0, .p q2 0, .p q3 0]) encM es (drE p o kd) := fun k hk1 => ClP.mk fun e he h4 K4 hbd4 hb4 hk4 => cl103_ok hk1 (hb4.get (by omega) (nv q1 k1) e1) (hb4.get (by omega) (nv q2 (by omega)) e2) (hb4.get hl3 (nv q3 (by omega)) hq3) hk4
  refine m_delete_ok (n := n + 3) (by omega) g2 hl (fun e _ => encM_one e) (mkc _ (by omega)) (mkc _ (by omega)) fun v2 h4 hbd4 hb4 hv2 hvv2 => ?_
  have g1' := hb4.get (by omega) (fun e => g4 e.symm) g1
  simp only [nl_p, fa_p]
  refine s1_a (o := 0 + 3) g1' (by simp) (vecE_one hvv2) fun h5 hg5 hb5 => ?_
  have hne2 : vblk v2 ≠ some r := by rw [hv2]; exact g4
  have hvv5 := hvv2.keep (hvv2.lt hbd4) hb5 (.inl hne2)
  have ht5 : PT h5 r (vblk lv) low room tn (es.filter fun e => !drE p o kd e) := ⟨v2, hg5, hvv5, hv2, g4⟩
  have hbd5 := hb5.2.2 hbd4
  rw [l1_a hg5 (x := v2) rfl, vece_len tt84 rfl hvv5]
  have hfl := List.length_filter_le (fun e => !drE p o kd e) es
  rw [sb_64 (by omega)]
  intro _
  rw [gt_i]
  exact fun _ => hk h5 _ hbd5 (((hb03.two (.inl rfl)).trans (hb4.two (.inr (.inr rfl)))).trans (hb5.two (.inr (.inl rfl)))) ht5

structure May (m : Mp) (now : Int) : Prop where
  p : m.p = 6
  o : 1 ≤ m.o ∧ m.o ≤ 65535
  i : 1 ≤ m.inn ∧ m.inn ≤ 65535
  k : m.kd = 3
  u : now < m.un

theorem may_ok {n : Nat} (hn : 2 ≤ n) {m : Mp} {now : Int} (hm : May m now) {h : H} {K : V → H → Prop} (k : ∀ h', Bd h' → But h h' none → K (.b true) h') : Ok Tryz.prog n 101 [.a (encM m), .i .i64 now] h K := by
  obtain ⟨n, rfl⟩ := Nat.exists_eq_add_of_le' hn
  refine Ok.bd (K101 (n := n + 1) fun hbd => ?_)
  unfold F101
  refine bx_a (cs := encM m) rfl fun q h1 g1 f1 _ _ => ?_
  obtain ⟨a1, a2, a3, a4, a5⟩ := hm
  rw [fa_p, l1_a g1 (x := .i .i64 m.p) rfl, cf_k]
  refine least_ok (by omega) fun hbd1 => ?_
  have l1 : leastP m.p = 1 := by rw [a1]; rfl
  have l2 : okP m.p = true := by rw [a1]; rfl
  rw [l1, l2]
  simp (disch := omega) only [ws, fa_p, l1_a g1 (show (encM m)[0 + 8]? = some (.i .i64 m.un) from rfl), l1_a g1 (show (encM m)[0 + 7]? = some (.i .i64 m.kd) from rfl), l1_a g1 (show (encM m)[0 + 1]? = some (.i .i64 m.o) from rfl), l1_a g1 (show (encM m)[0 + 6]? = some (.i .i64 m.inn) from rfl), eq_i, gt_i, dec_f (show ¬ m.kd = 4 by omega), dec_t a5, F101_18, List.getElem?_cons_succ, List.getElem?_cons_zero, oP_some]
  refine within_ok (by omega) fun _ => ?_
  rw [dec_t a2.1, dec_t a2.2]
  simp (disch := omega) only [ws, fa_p, l1_a g1 (show (encM m)[0 + 7]? = some (.i .i64 m.kd) from rfl), l1_a g1 (show (encM m)[0 + 6]? = some (.i .i64 m.inn) from rfl), Bool.and_true]
  refine within_ok (by omega) fun _ => ?_
  rw [dec_t a3.1, dec_t a3.2]
  simp (disch := omega) only [ws, fa_p, l1_a g1 (show (encM m)[0 + 7]? = some (.i .i64 m.kd) from rfl), Bool.and_true]
  refine within_ok (by omega) fun _ => ?_
  rw [dec_t (show (2 : Int) ≤ m.kd by omega), dec_t (show m.kd ≤ (4 : Int) by omega)]
  simp (disch := omega) only [ws, Bool.and_true]
  exact fun hb => k h1 hb f1

theorem put0_ok {n : Nat} (hn : 6 ≤ n) {r : Nat} {low room tn t : Int} {m : Mp} (hm : May m (timeP tn t)) (hroom : 1 ≤ room) {h : H} {K : V → H → Prop} (ht : PT h r none low room tn [])
    (k : ∀ h' c', Bd h' → But2 h h' r none → (c' = none ∨ ∃ z, c' = some z ∧ h.next ≤ z) → PT h' r c' low room (timeP tn t) [m] → K (.i .i64 0) h') : Ok Tryz.prog n 64 [.p r 0, .a (encM m), .i .i64 t] h K := by
  obtain ⟨n, rfl⟩ := Nat.exists_eq_add_of_le' hn
  refine Ok.bd (K64 (n := n + 5) fun hbd => ?_)
  unfold F64
  obtain ⟨hr, _⟩ := ht.lt hbd
  refine bx_a (cs := encM m) rfl fun q h1 g1 f1 hq hq' => ?_
  have n1 := f1.1
  rw [cf_k]
  refine time_ok (by omega) (ht.keep hbd f1) fun h2 hbd2 f2 ht2 => ?_
  have hqr : some q ≠ some r := fun e => by have := Option.some.inj e; omega
  have g2 := f2.get hq' hqr g1
  have n2 := f2.1
  rw [ln_w (sz := 9) g2 rfl, cf_k]
  refine may_ok (by omega) hm fun h3 hbd3 f3 => ?_
  have n3 := f3.1
  rw [nt_b, Bool.not_true, cd_f]
  unfold F64_10
  have g3 := f3.get (by omega) (by simp) g2
  have ht3 := ht2.keep hbd2 f3
  rw [fa_p, l1_a g3 (x := .i .i64 m.p) rfl, fa_p, l1_a g3 (x := .i .i64 m.o) rfl, cf_k]
  refine find_ok (by omega) ht3 (by simp) fun h4 hbd4 f4 => ?_
  have n4 := f4.1
  rw [show fndP (fdE m.p m.o (timeP tn t)) [] 0 = -1 from rfl, ge_i, decide_eq_false (show ¬ (0 : Int) ≤ -1 by omega)]
  simp (disch := omega) only [ws]
  rw [show decide ((0 : Int) ≤ -1) = false from rfl, cd_f]
  have ht4 := ht3.keep hbd3 f4
  have g4 := f4.get (by omega) (by simp) g3
  refine Ok.bd (count_ok (by omega) ht4 (by simp) fun h5 hbd5 f5 hbd5' => ?_)
  refine ⟨fun z hz => f5.2.1 z hz (by simp), ?_⟩
  have ht5 := ht4.keep hbd4 f5
  have g5 := f5.get (by omega) (by simp) g4
  have n5 := f5.1
  obtain ⟨lv, gt, _⟩ := id ht4
  dsimp only
  rw [l1_a gt (x := .i .i64 room) rfl, show cntL (timeP tn t) [] = 0 from rfl, ge_i, decide_eq_false (show ¬ room ≤ ((0 : Nat) : Int) by omega), cd_f]
  unfold F64_22
  rw [ln_w (sz := 9) g5 rfl, cf_k]
  refine add_ok (by omega) ht5 (by simp) fun h6 c' hbd6 ht6 hc6 f6 => ?_
  exact fun _ => k h6 c' hbd6 ((((((f1.two (.inl rfl)).trans (f2.two (.inr (.inl rfl)))).trans (f3.two (.inl rfl))).trans (f4.two (.inl rfl))).trans (f5.two (.inl rfl))).trans f6) (by
    rcases hc6 with e | ⟨z, e, hz⟩
    · exact .inl e
    · exact .inr ⟨z, e, by omega⟩) ht6
end Go.Proofs.YtbkhielalbbopaaGreatDoor.Wb
