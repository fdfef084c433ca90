/- A mapping is put: what may come of it. -/
import Derived.Test.YtbkhielalbbopaaGreatDoorVo8
set_option linter.unusedSimpArgs false
set_option linter.unusedVariables false
set_option linter.unusedSectionVars false
set_option linter.unnecessarySimpa false
set_option maxRecDepth 100000
namespace Go.Proofs.YtbkhielalbbopaaGreatDoor.Wb
open Go.Am

theorem may_any {n : Nat} (hn : 2 ≤ n) {m : Mp} {now : Int} {h : H} {K : V → H → Prop} (k : ∀ h' (x : Bool), Bd h' → But h h' none → K (.b x) h') : Ok Tryz.prog n 101 [.a (encM m), .i .i64 now] h K := by
  obtain ⟨n, rfl⟩ := Nat.exists_eq_add_of_le' hn
  refine Ok.bd (K101 (n := n + 1) fun hbd => ?_)
  unfold F101
  refine bx_a (cs := encM m) rfl fun q h1 g1 f1 _ _ => ?_
  have r0 : ∀ κ : V → Prop, pw.l1 (.p q (0 + 0)) h1 κ = κ (.i .i64 m.p) := fun κ => l1_a g1 rfl
  have r1 : ∀ κ : V → Prop, pw.l1 (.p q (0 + 1)) h1 κ = κ (.i .i64 m.o) := fun κ => l1_a g1 rfl
  have r6 : ∀ κ : V → Prop, pw.l1 (.p q (0 + 6)) h1 κ = κ (.i .i64 m.inn) := fun κ => l1_a g1 rfl
  have r7 : ∀ κ : V → Prop, pw.l1 (.p q (0 + 7)) h1 κ = κ (.i .i64 m.kd) := fun κ => l1_a g1 rfl
  have r8 : ∀ κ : V → Prop, pw.l1 (.p q (0 + 8)) h1 κ = κ (.i .i64 m.un) := fun κ => l1_a g1 rfl
  have kk : ∀ x : Bool, Bd h1 → K (.b x) h1 := fun x hb => k h1 x hb f1
  have tail : ∀ (lo : Int) (ok u : Bool), F101_18 pw (mkX Tryz.prog) (Ok Tryz.prog (n + 1)) (fun v h => Bd h → K v h) (.p q 0) (.i .i64 lo) (.b ok) (.b u) h1 := by
    intro lo ok u
    unfold F101_18
    cases ok with
    | false => simp (disch := omega) only [ws]; exact kk false
    | true =>
      simp (disch := omega) only [ws, r1]
      refine within_ok (by omega) fun _ => ?_
      generalize (decide (lo ≤ m.o) && decide (m.o ≤ 65535)) = x1
      cases x1 with
      | false => simp (disch := omega) only [ws]; exact kk false
      | true =>
        simp (disch := omega) only [ws, r6]
        refine within_ok (by omega) fun _ => ?_
        generalize (decide (lo ≤ m.inn) && decide (m.inn ≤ 65535)) = x2
        cases x2 with
        | false => simp (disch := omega) only [ws]; exact kk false
        | true =>
          simp (disch := omega) only [ws, r7]
          refine within_ok (by omega) fun _ => ?_
          generalize (decide ((2 : Int) ≤ m.kd) && decide (m.kd ≤ 4)) = x3
          cases x3 with
          | false => simp (disch := omega) only [ws]; exact kk false
          | true => simp (disch := omega) only [ws]; exact kk u
  rw [fa_p, r0, cf_k]
  refine least_ok (by omega) fun _ => ?_
  simp only [ex_t, List.getElem?_cons_zero, List.getElem?_cons_succ, oP_some, fa_p, r8, r7, gt_i, eq_i]
  by_cases h4 : m.kd = 4
  · rw [decide_eq_true h4, cd_t]
    exact tail _ _ _
  · rw [decide_eq_false h4, cd_f]
    exact tail _ _ _

/-- What may come of it. -/
inductive PutR (room T : Int) (es : List Mp) : List Mp → Prop
  | same : PutR room T es es
  | upd (j : Nat) (h : j < es.length) (u : Int) : lvE es[j] T = true → PutR room T es (es.set j { es[j] with un := u })
  | add (m : Mp) : (cntL T es : Int) < room → PutR room T es (es.filter (fun e => !sameE m e) ++ [m])

set_option maxHeartbeats 4000000 in
theorem put_any {n : Nat} (hn : 6 ≤ n) {r : Nat} {c : Option Nat} {low room tn t : Int} {m : Mp} {es : List Mp} (hl : es.length ≤ 9000) {h : H} {K : V → H → Prop} (ht : PT h r c low room tn es)
    (k : ∀ h' c' es' v, Bd h' → But2 h h' r c → (c' = c ∨ ∃ z, c' = some z ∧ h.next ≤ z) → PT h' r c' low room (timeP tn t) es' → PutR room (timeP tn t) es es' → K v h') : Ok Tryz.prog n 64 [.p r 0, .a (encM m), .i .i64 t] h K := by
  obtain ⟨n, rfl⟩ := Nat.exists_eq_add_of_le' hn
  refine Ok.bd (K64 (n := n + 5) fun hbd => ?_)
  unfold F64
  obtain ⟨hr, hlc⟩ := ht.lt hbd
  refine bx_a (cs := encM m) rfl fun q h1 g1 f1 hq hq' => ?_
  have n1 := f1.1
  rw [cf_k]
  refine time_ok (by omega) (ht.keep hbd f1) fun h2 hbd2 f2 ht2 => ?_
  have hqr : some q ≠ some r := fun e => by have := Option.some.inj e; omega
  have hqc : c ≠ some q := fun e => by have := hlc q e; omega
  have g2 := f2.get hq' hqr g1
  have n2 := f2.1
  rw [ln_w (sz := 9) g2 rfl, cf_k]
  refine may_any (by omega) fun h3 x hbd3 f3 => ?_
  have ht3 := ht2.keep hbd2 f3
  have n3 := f3.1
  have f03 : But2 h h3 r c := ((f1.two (.inl rfl)).trans (f2.two (.inr (.inl rfl)))).trans (f3.two (.inl rfl))
  cases x with
  | false =>
    simp (disch := omega) only [ws, Bool.not_false]
    exact fun hb => k h3 c es _ hb f03 (.inl rfl) ht3 .same
  | true =>
  simp (disch := omega) only [ws, Bool.not_true]
  unfold F64_10
  have g3 := f3.get (by omega) (by simp) g2
  rw [fa_p, l1_a g3 (x := .i .i64 m.p) rfl, fa_p, l1_a g3 (x := .i .i64 m.o) rfl, cf_k]
  refine find_ok (by omega) ht3 (by omega) fun h4 hbd4 f4 => ?_
  have n4 := f4.1
  have ht4 := ht3.keep hbd3 f4
  have g4 := f4.get (by omega) (by simp) g3
  have f04 : But2 h h4 r c := f03.trans (f4.two (.inl rfl))
  generalize timeP tn t = T at k ht4 ht3 ht2 ⊢
  obtain ⟨lv, gt, gv, rfl, hcr⟩ := id ht4
  have r3 : ∀ κ : V → Prop, pw.l1 (.p r (0 + 3)) h4 κ = κ lv := fun κ => l1_a gt rfl
  by_cases hf : fndP (fdE m.p m.o T) es 0 < 0
  · have e1 : fndP (fdE m.p m.o T) es 0 = -1 := by have := fndP_lo (fdE m.p m.o T) es 0; omega
    rw [e1, ge_i, decide_eq_false (show ¬ (0 : Int) ≤ -1 by omega)]
    simp (disch := omega) only [ws]
    rw [show decide ((0 : Int) ≤ -1) = false from rfl, cd_f]
    refine Ok.bd (count_ok (by omega) ht4 (by omega) fun h5 hbd5 f5 hbd5' => ?_)
    refine ⟨fun z hz => f5.2.1 z hz (by simp), ?_⟩
    have ht5 := ht4.keep hbd4 f5
    have g5 := f5.get (by omega) (by simp) g4
    have n5 := f5.1
    dsimp only
    rw [l1_a gt (x := .i .i64 room) rfl, ge_i]
    have f05 := f04.trans (f5.two (.inl rfl))
    by_cases hrm : room ≤ (cntL T es : Int)
    · rw [decide_eq_true hrm, cd_t]
      exact fun hb => k h5 _ es _ hb f05 (.inl rfl) ht5 .same
    · rw [decide_eq_false hrm, cd_f]
      unfold F64_22
      rw [ln_w (sz := 9) g5 rfl, cf_k]
      refine add_ok (by omega) ht5 (by omega) fun h6 c' hbd6 ht6 hc6 f6 => ?_
      exact fun _ => k h6 c' _ _ hbd6 (f05.trans f6) (by
        rcases hc6 with e | ⟨z, e, hz⟩
        · exact .inl e
        · exact .inr ⟨z, e, by omega⟩) ht6 (.add m (by omega))
  · obtain ⟨j, hj, e1, e2, e3⟩ := fndP_some (show 0 ≤ fndP (fdE m.p m.o T) es 0 by omega)
    rw [Nat.zero_add] at e1
    have hlv : lvE es[j] T = true := by
      simp only [fdE, Bool.and_eq_true] at e2
      exact e2.2.2
    rw [e1, ge_i, decide_eq_true (show (0 : Int) ≤ (j : Nat) by omega)]
    have m7 : ∀ κ : V → Prop, pw.l1 (.p q (0 + 7)) h4 κ = κ (.i .i64 m.kd) := fun κ => l1_a g4 rfl
    have m6 : ∀ κ : V → Prop, pw.l1 (.p q (0 + 6)) h4 κ = κ (.i .i64 m.inn) := fun κ => l1_a g4 rfl
    have m8 : ∀ κ : V → Prop, pw.l1 (.p q (0 + 8)) h4 κ = κ (.i .i64 m.un) := fun κ => l1_a g4 rfl
    have m2 : ∀ κ : V → Prop, pw.ln 4 (.p q (0 + 2)) h4 κ = κ (.a (encA m.ad)) := fun κ => by rw [ln_a (sz := 4) g4 (by simp [encM])]; rfl
    have taken : ∀ w : V, Bd h4 → K w h4 := fun w hb => k h4 _ es w hb f04 (.inl rfl) ht4 .same
    simp (disch := omega) only [ws, r3]
    refine vece_at (i := j) encM_len gv rfl hj fun b ha => ?_
    have a7 : ∀ κ : V → Prop, pw.l1 (.p b (j * 9 + 7)) h4 κ = κ (.i .i64 es[j].kd) := fun κ => ha.get (f := 7) rfl
    by_cases c1 : es[j].kd = m.kd
    · simp (disch := omega) only [ws, a7, m7, r3, ne_i, decide_eq_true c1, Bool.not_true]
      refine vece_at (i := j) encM_len gv rfl hj fun b2 ha2 => ?_
      have a2 : ∀ κ : V → Prop, pw.ln 4 (.p b2 (j * 9 + 2)) h4 κ = κ (.a (encA es[j].ad)) := fun κ => by rw [ha2.getn (f := 2) (n := 4) (by omega)]; rfl
      simp (disch := omega) only [ws, a2, m2]
      rw [nead]
      by_cases c2 : es[j].ad = m.ad
      · rw [decide_eq_true c2]
        simp (disch := omega) only [ws, Bool.not_true, r3]
        refine vece_at (i := j) encM_len gv rfl hj fun b3 ha3 => ?_
        have a6 : ∀ κ : V → Prop, pw.l1 (.p b3 (j * 9 + 6)) h4 κ = κ (.i .i64 es[j].inn) := fun κ => ha3.get (f := 6) rfl
        by_cases c3 : es[j].inn = m.inn
        · simp (disch := omega) only [ws, a6, m6, ne_i, decide_eq_true c3, Bool.not_true, dec_t, r3, m8]
          refine vece_at (i := j) encM_len gv rfl hj fun b4 ha4 => ?_
          simp only [fa_p]
          refine vece_set1 encM_len gv (i := j) hj ha4.blk (f := 8) (by omega) rfl (e' := { es[j] with un := m.un }) rfl fun h5 hv5 hb5 => ?_
          exact fun hb => k h5 _ _ _ hb (f04.trans (hb5.two (.inr (.inr rfl)))) (.inl rfl) ⟨lv, hb5.get (hbd4 _ _ gt) (fun e => hcr e.symm) gt, hv5, rfl, hcr⟩ (.upd j hj m.un hlv)
        · simp (disch := omega) only [ws, a6, m6, ne_i, decide_eq_false c3, Bool.not_false]
          exact taken _
      · rw [decide_eq_false c2]
        simp (disch := omega) only [ws, Bool.not_false]
        exact taken _
    · simp (disch := omega) only [ws, a7, m7, ne_i, decide_eq_false c1, Bool.not_false]
      exact taken _

theorem mk_put {low room T : Int} {f : Fl} {secs : Int} {es es' : List Mp} {v : V} (h : MkP low room T f secs es es' v) : PutR room T es es' := by
  cases h with
  | arg _ => exact .same
  | out j hj _ ho =>
    have hlv : lvE es[j] T = true := by
      simp only [outE, Bool.and_eq_true] at ho
      exact ho.2.2.2
    unfold upE
    split
    · exact .upd j hj _ hlv
    · have := PutR.upd (room := room) j hj es[j].un hlv
      exact this
  | full _ _ _ => exact .same
  | new o _ _ hc _ _ => exact .add _ hc

/-! ### What stays true -/
structure Inv (T : Int) (es : List Mp) : Prop where
  dis : two es
  cnt : (liv T es).length < 41
theorem cnt_liv (T : Int) (es : List Mp) : cntL T es = (liv T es).length := rfl
theorem Inv.later {T T' : Int} {es : List Mp} (h : Inv T es) (ht : T ≤ T') : Inv T' es := by
  refine ⟨h.dis, Nat.lt_of_le_of_lt ?_ h.cnt⟩
  have : liv T' es = (liv T es).filter fun e => lvE e T' := by
    unfold liv
    rw [List.filter_filter]
    refine List.filter_congr fun e _ => ?_
    unfold lvE
    by_cases h1 : e.kd = 4
    · simp [h1]
    · by_cases h2 : T' < e.un
      · simp [h1, h2]; omega
      · simp [h1, h2]
  rw [this]
  exact List.length_filter_le _ _
theorem Inv.put {T : Int} {es es' : List Mp} (h : Inv T es) (hp : PutR 40 T es es') : Inv T es' ∧ es'.length ≤ es.length + 1 := by
  cases hp with
  | same => exact ⟨h, by omega⟩
  | upd j hj u hlv =>
    refine ⟨⟨?_, ?_⟩, by rw [List.length_set]; omega⟩
    · refine List.pairwise_iff_getElem.2 fun x y hx hy hxy => ?_
      have h1 := List.pairwise_iff_getElem.1 h.dis x y (by rw [List.length_set] at hx; exact hx) (by rw [List.length_set] at hy; exact hy) hxy
      rw [List.getElem_set, List.getElem_set]
      split
      · split
        · omega
        · rename_i e _; subst e; exact h1
      · split
        · rename_i _ e; subst e; exact h1
        · exact h1
    · refine Nat.lt_of_le_of_lt ?_ h.cnt
      unfold liv
      have hp : 0 < es.countP fun e => lvE e T := List.countP_pos_iff.2 ⟨es[j], List.getElem_mem _, hlv⟩
      rw [← List.countP_eq_length_filter, ← List.countP_eq_length_filter, List.countP_set hj, if_pos hlv]
      split <;> omega
  | add m hc =>
    have hlf : (es.filter fun e => !sameE m e).length ≤ es.length := List.length_filter_le _ _
    refine ⟨⟨?_, ?_⟩, by rw [List.length_append, List.length_singleton]; omega⟩
    · refine List.pairwise_append.2 ⟨List.Pairwise.filter _ h.dis, List.pairwise_singleton _ _, fun a ha b hb => ?_⟩
      rw [List.mem_singleton] at hb
      subst hb
      have := (List.mem_filter.1 ha).2
      intro e
      simp [sameE, e.1, e.2] at this
    · rw [cnt_liv] at hc
      unfold liv at hc ⊢
      rw [List.filter_append, List.length_append]
      have h1 : ((es.filter fun e => !sameE m e).filter fun e => lvE e T).length ≤ (es.filter fun e => lvE e T).length := by
        exact (List.Sublist.filter _ List.filter_sublist).length_le
      have h2 : ([m].filter fun e => lvE e T).length ≤ 1 := List.length_filter_le _ _
      omega
end Go.Proofs.YtbkhielalbbopaaGreatDoor.Wb
