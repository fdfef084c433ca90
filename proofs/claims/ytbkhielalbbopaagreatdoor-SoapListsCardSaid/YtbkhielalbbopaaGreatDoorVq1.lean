/- Ports: a new mapping is put; a flow's is made. -/
import Derived.Test.YtbkhielalbbopaaGreatDoorVo9
import Derived.Test.YtbkhielalbbopaaGreatDoorYp9
set_option linter.unusedSimpArgs false
set_option linter.unusedVariables false
set_option linter.unusedSectionVars false
set_option linter.unnecessarySimpa false
set_option maxRecDepth 100000
namespace Go.Proofs.YtbkhielalbbopaaGreatDoor.Wb
open Go.Am

/-- May, for two protocols. -/
structure May2 (m : Mp) (now : Int) : Prop where
  p : m.p = 6 ∨ m.p = 17
  o : 1 ≤ m.o ∧ m.o ≤ 65535
  i : 1 ≤ m.inn ∧ m.inn ≤ 65535
  k : m.kd = 3
  u : now < m.un

theorem may2_ok {n : Nat} (hn : 2 ≤ n) {m : Mp} {now : Int} (hm : May2 m now) {h : H} {K : V → H → Prop} (k : ∀ h', Bd h' → But h h' none → K (.b true) h') : Ok Tryz.prog n 101 [.a (encM m), .i .i64 now] h K := by
  obtain ⟨n, rfl⟩ := Nat.exists_eq_add_of_le' hn
  refine Ok.bd (K101 (n := n + 1) fun hbd => ?_)
  unfold F101
  refine bx_a (cs := encM m) rfl fun q h1 g1 f1 _ _ => ?_
  obtain ⟨a1, a2, a3, a4, a5⟩ := hm
  rw [fa_p, l1_a g1 (x := .i .i64 m.p) rfl, cf_k]
  refine least_ok (by omega) fun hbd1 => ?_
  have l1 : leastP m.p = 1 := by rcases a1 with e | e <;> rw [e] <;> rfl
  have l2 : okP m.p = true := by rcases a1 with e | e <;> rw [e] <;> rfl
  rw [l1, l2]
  simp (disch := omega) only [ws, fa_p, l1_a g1 (show (encM m)[0 + 8]? = some (.i .i64 m.un) from rfl), l1_a g1 (show (encM m)[0 + 7]? = some (.i .i64 m.kd) from rfl), l1_a g1 (show (encM m)[0 + 1]? = some (.i .i64 m.o) from rfl), l1_a g1 (show (encM m)[0 + 6]? = some (.i .i64 m.inn) from rfl), eq_i, gt_i, dec_f (show ¬ m.kd = 4 by omega), dec_t a5, F101_18, List.getElem?_cons_succ, List.getElem?_cons_zero, oP_some]
  refine within_ok (by omega) fun _ => ?_
  rw [dec_t a2.1, dec_t a2.2]
  simp (disch := omega) only [ws, fa_p, l1_a g1 (show (encM m)[0 + 7]? = some (.i .i64 m.kd) from rfl), l1_a g1 (show (encM m)[0 + 6]? = some (.i .i64 m.inn) from rfl), Bool.and_true]
  refine within_ok (by omega) fun _ => ?_
  rw [dec_t a3.1, dec_t a3.2]
  simp (disch := omega) only [ws, fa_p, l1_a g1 (show (encM m)[0 + 7]? = some (.i .i64 m.kd) from rfl), Bool.and_true]
  refine within_ok (by omega) fun _ => ?_
  rw [dec_t (show (2 : Int) ≤ m.kd by omega), dec_t (show m.kd ≤ (4 : Int) by omega)]
  simp (disch := omega) only [ws, Bool.and_true]
  exact fun hb => k h1 hb f1

theorem putN_ok {n : Nat} (hn : 6 ≤ n) {r : Nat} {c : Option Nat} {low room tn t : Int} {m : Mp} {es : List Mp} (hl : es.length ≤ 9000) (hm : May2 m (timeP tn t)) (hroom : (cntL (timeP tn t) es : Int) < room) (hno : ∀ e ∈ es, fdE m.p m.o (timeP tn t) e = false) {h : H} {K : V → H → Prop} (ht : PT h r c low room tn es)
    (k : ∀ h' c', Bd h' → But2 h h' r c → (c' = c ∨ ∃ z, c' = some z ∧ h.next ≤ z) → PT h' r c' low room (timeP tn t) (es.filter (fun e => !sameE m e) ++ [m]) → K (.i .i64 0) h') : Ok Tryz.prog n 64 [.p r 0, .a (encM m), .i .i64 t] h K := by
  obtain ⟨n, rfl⟩ := Nat.exists_eq_add_of_le' hn
  refine Ok.bd (K64 (n := n + 5) fun hbd => ?_)
  unfold F64
  obtain ⟨hr, hlc⟩ := ht.lt hbd
  refine bx_a (cs := encM m) rfl fun q h1 g1 f1 hq hq' => ?_
  have n1 := f1.1
  rw [cf_k]
  refine time_ok (by omega) (ht.keep hbd f1) fun h2 hbd2 f2 ht2 => ?_
  have hqr : some q ≠ some r := fun e => by have := Option.some.inj e; omega
  have g2 := f2.get hq' hqr g1
  have n2 := f2.1
  rw [ln_w (sz := 9) g2 rfl, cf_k]
  refine may2_ok (by omega) hm fun h3 hbd3 f3 => ?_
  have n3 := f3.1
  rw [nt_b, Bool.not_true, cd_f]
  unfold F64_10
  have g3 := f3.get (by omega) (by simp) g2
  have ht3 := ht2.keep hbd2 f3
  rw [fa_p, l1_a g3 (x := .i .i64 m.p) rfl, fa_p, l1_a g3 (x := .i .i64 m.o) rfl, cf_k]
  refine find_ok (by omega) ht3 (by omega) fun h4 hbd4 f4 => ?_
  have n4 := f4.1
  have e1 : fndP (fdE m.p m.o (timeP tn t)) es 0 = -1 := by
    have h1 := fndP_lo (fdE m.p m.o (timeP tn t)) es 0
    by_cases h2 : 0 ≤ fndP (fdE m.p m.o (timeP tn t)) es 0
    · obtain ⟨j, hj, _, e2, _⟩ := fndP_some h2
      rw [hno _ (List.getElem_mem hj)] at e2
      cases e2
    · omega
  rw [e1, ge_i, decide_eq_false (show ¬ (0 : Int) ≤ -1 by omega)]
  simp (disch := omega) only [ws]
  rw [show decide ((0 : Int) ≤ -1) = false from rfl, cd_f]
  have ht4 := ht3.keep hbd3 f4
  have g4 := f4.get (by omega) (by simp) g3
  refine Ok.bd (count_ok (by omega) ht4 (by omega) fun h5 hbd5 f5 hbd5' => ?_)
  refine ⟨fun z hz => f5.2.1 z hz (by simp), ?_⟩
  have ht5 := ht4.keep hbd4 f5
  have g5 := f5.get (by omega) (by simp) g4
  have n5 := f5.1
  obtain ⟨lv, gt, _⟩ := id ht4
  dsimp only
  rw [l1_a gt (x := .i .i64 room) rfl, ge_i, decide_eq_false (show ¬ room ≤ ((cntL (timeP tn t) es : Nat) : Int) by omega), cd_f]
  unfold F64_22
  rw [ln_w (sz := 9) g5 rfl, cf_k]
  refine add_ok (by omega) ht5 (by omega) fun h6 c' hbd6 ht6 hc6 f6 => ?_
  exact fun _ => k h6 c' hbd6 ((((((f1.two (.inl rfl)).trans (f2.two (.inr (.inl rfl)))).trans (f3.two (.inl rfl))).trans (f4.two (.inl rfl))).trans (f5.two (.inl rfl))).trans f6) (by
    rcases hc6 with e | ⟨z, e, hz⟩
    · exact .inl e
    · exact .inr ⟨z, e, by omega⟩) ht6
end Go.Proofs.YtbkhielalbbopaaGreatDoor.Wb
