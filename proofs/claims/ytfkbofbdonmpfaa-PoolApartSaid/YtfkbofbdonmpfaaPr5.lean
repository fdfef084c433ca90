/- Who has which address, with fixed devices and barred addresses: 'may', 'End'. -/
import Derived.Test.YtfkbofbdonmpfaaPr4
set_option linter.unusedSimpArgs false
set_option linter.unusedVariables false
set_option linter.unusedSectionVars false
set_option linter.unnecessarySimpa false
set_option maxRecDepth 100000
namespace Go.Proofs.Ytfkbofbdonmpfaa.Wb
open Go.Am

/-- A live lease of an address (the table's first one of it). -/
def liveA (now : Int) (es : List He) (a : Int) : Prop := ∃ j, ∃ h : j < es.length, fndP (isA a) es 0 = (j : Nat) ∧ now < es[j].l.un
/-- What 'may' may say: that it may, only if it is the fixed one's own, or an address of the pool that nobody else has. -/
def MayP (now : Int) (fx : List Le) (first last m a : Int) (es : List He) (e : Int) : Prop := e = 0 → (∃ x ∈ fx, x.m = m ∧ x.a = a) ∨ ((∀ x ∈ fx, x.m ≠ m) ∧ first ≤ a ∧ a ≤ last ∧ (∀ x ∈ fx, x.a ≠ a) ∧ ∀ j (h : j < es.length), fndP (isA a) es 0 = (j : Nat) → now < es[j].l.un → es[j].l.m = m)

/-- When a device may take an address. -/
def MayC (now : Int) (fx : List Le) (ms : List (V × V × Nat)) (first last m a : Int) (es : List He) : Prop := (∃ x ∈ fx, x.m = m ∧ x.a = a) ∨ ((∀ x ∈ fx, x.m ≠ m) ∧ first ≤ a ∧ a ≤ last ∧ (∀ x ∈ fx, x.a ≠ a) ∧ ((∃ j, ∃ h : j < es.length, fndP (isA a) es 0 = (j : Nat) ∧ now < es[j].l.un ∧ es[j].l.m = m) ∨ ((∀ j (h : j < es.length), fndP (isA a) es 0 = (j : Nat) → ¬ now < es[j].l.un) ∧ ¬ now < barT ms a)))

set_option maxHeartbeats 1000000 in
theorem mayG_ok {n : Nat} (hn : 5 ≤ n) {r : Nat} {c : Option Nat} {fx : List Le} {ms : List (V × V × Nat)} {first last now a m : Int} (hfx : fx.length ≤ 10000) (hu : ∀ x ∈ fx, ∀ y ∈ fx, x.m = y.m → x = y) (ha : 0 ≤ a ∧ a ≤ 255) {es : List He} (hl : es.length ≤ 10000) {h : H} {K : V → H → Prop} (ht : PG h r c fx ms first last now es)
    (hk : ∀ h' e, Bd h' → But h h' none → MayP now fx first last m a es e → (MayC now fx ms first last m a es → e = 0) → K (.i .i64 e) h') : Ok Try.prog n 89 [.p r 0, .a (maV m), .a (adV a)] h K := by
  obtain ⟨n, rfl⟩ := Nat.exists_eq_add_of_le' hn
  refine Ok.bd (K89 (n := n + 4) fun hbd => ?_)
  simp only [F89]
  refine bx_a (cs := maV m) rfl fun p h1 hp hb1 _ hp2 => ?_
  refine bx_a (cs := adV a) rfl fun q h2 hq hb2 _ hq2 => ?_
  have hb02 := hb1.trans hb2
  have hp' := hb2.get hp2 (by simp) hp
  rw [ln_w (sz := 6) hp' rfl, cf_k]
  refine keptG_ok (by omega) hfx (ht.keep hbd hb02) (fun h3 hbd3 hb3 hno => ?_) fun h3 x hbd3 hb3 hx hxm => ?_
  · simp (disch := omega) only [ws, List.getElem?_cons_zero, List.getElem?_cons_succ]
    refine al_a tt28 fun z h4 hz hb4 hz1 hz2 => ?_
    refine sn_w (w := .a zeV) (cs := zeV) hz rfl rfl rfl rfl fun h5 hg5 hb5 => ?_
    have hb35 : But h3 h5 none := hb4.over hb5 (.inr fun r e => by cases e; exact hz1)
    have hb05 := (hb02.trans hb3).trans hb35
    have hq5 := (hb3.trans hb35).get hq2 (by simp) hq
    have hp5 := (hb2.trans (hb3.trans hb35)).get hp2 (by simp) hp
    have hql : q < h5.next := Nat.lt_of_lt_of_le hq2 (Nat.le_trans hb3.1 hb35.1)
    have hpl : p < h5.next := Nat.lt_of_lt_of_le hp2 (hb2.trans (hb3.trans hb35)).1
    simp only [F89_7]
    rw [ln_w (sz := 4) hq5 rfl, cf_k]
    refine ofG_ok (by omega) (ht.keep hbd hb05) hl fun h6 hbd6 hb6 => ?_
    have hb06 := hb05.trans hb6
    have hq6 := hb6.get hql (by simp) hq5
    have hp6 := hb6.get hpl (by simp) hp5
    have lq : ∀ κ : V → Prop, pw.ln 4 (.p q 0) h6 κ = κ (.a (adV a)) := fun κ => by rw [ln_w (sz := 4) hq6 rfl]
    have lp : ∀ κ : V → Prop, pw.ln 6 (.p p 0) h6 κ = κ (.a (maV m)) := fun κ => by rw [ln_w (sz := 6) hp6 rfl]
    rw [cf_k]
    have no6 : ∀ b : Bool, (b = true ↔ (first ≤ a ∧ a ≤ last ∧ ∀ e ∈ fx, e.a ≠ a)) → b = false → MayC now fx ms first last m a es → (6 : Int) = 0 := by
      intro b hb hbf hc
      rcases hc with ⟨x, hx, hxm, _⟩ | ⟨_, c1, c2, c3, _⟩
      · exact absurd hxm (hno x hx)
      · rw [hb.2 ⟨c1, c2, c3⟩] at hbf; cases hbf
    by_cases hneg : fndP (isA a) es 0 < 0
    · have may0 : ∀ e, (e = 0 → first ≤ a ∧ a ≤ last ∧ ∀ x ∈ fx, x.a ≠ a) → MayP now fx first last m a es e := fun e he h => .inr ⟨hno, (he h).1, (he h).2.1, (he h).2.2, fun j hj h2 => by omega⟩
      refine live_no (by omega) hneg fun _ => ?_
      simp (disch := omega) only [ws, lq]
      refine hasG_ok (by omega) hfx ha (ht.keep hbd hb06) fun h7 b hbd7 hb7 hb => ?_
      have hq7 := hb7.get (Nat.lt_of_lt_of_le hql hb6.1) (by simp) hq6
      cases b with
      | false =>
        simp (disch := omega) only [ws, Bool.not_false]
        intro hbd'
        exact hk h7 6 hbd' (hb06.trans hb7) (may0 6 fun h => by cases h) (no6 false hb rfl)
      | true =>
        simp (disch := omega) only [ws, Bool.not_true, Bool.not_false]
        refine live_no (by omega) hneg fun _ => ?_
        simp (disch := omega) only [ws, ln_w (sz := 4) hq7 rfl]
        refine barredG_ok (by omega) (ht.keep hbd (hb06.trans hb7)) fun h8 hbd8 hb8 => ?_
        have h0 := hb.1 rfl
        by_cases hbar : now < barT ms a
        · simp (disch := omega) only [ws, dec_t hbar]
          intro hbd'
          refine hk h8 8 hbd' ((hb06.trans hb7).trans hb8) (may0 8 fun h => by cases h) fun hc => ?_
          rcases hc with ⟨x, hx, hxm, _⟩ | ⟨_, _, _, _, ⟨j, hj, g1, _⟩ | ⟨_, hc⟩⟩
          · exact absurd hxm (hno x hx)
          · omega
          · exact absurd hbar hc
        · simp (disch := omega) only [ws, dec_f hbar, F89_43]
          intro hbd'
          exact hk h8 0 hbd' ((hb06.trans hb7).trans hb8) (may0 0 fun _ => h0) fun _ => rfl
    · obtain ⟨j, hj, g1, g2, _⟩ := fndP_some (show 0 ≤ fndP (isA a) es 0 by omega)
      rw [Nat.zero_add] at g1
      have may0 : ∀ e, (e = 0 → (first ≤ a ∧ a ≤ last ∧ ∀ x ∈ fx, x.a ≠ a) ∧ (now < es[j].l.un → es[j].l.m = m)) → MayP now fx first last m a es e := fun e he h => .inr ⟨hno, (he h).1.1, (he h).1.2.1, (he h).1.2.2, fun i hi h2 h3 => by
        have : i = j := by omega
        subst this
        exact (he h).2 h3⟩
      rw [g1]
      have ht6 := ht.keep hbd hb06
      refine liveG_ok (by omega) hj ht6 fun _ => ?_
      have rest : ∀ own : Bool, (now < es[j].l.un → (own = true ↔ es[j].l.m = m)) → (¬ now < es[j].l.un → own = false) → ∀ h6', h6' = h6 → pw.ln 4 (.p q 0) h6' fun v46 => Ok Try.prog (n + 4) 95 [.p r 0, v46] h6' fun v47 h47 => pw.nt v47 fun v48 => pw.cd v48 (Bd h47 → K (.i .i64 6) h47) (pw.nt (.b own) fun v52 => pw.g1 v52 (fun κ => κ (.p r 0) h47) h47 fun v55 h55 => pw.g1 v52 (fun κ => κ (.i .i64 (j : Nat)) h55) h55 fun v57 h57 => pw.g1 v52 (fun κ => pw.cf (Ok Try.prog (n + 4)) 96 [v55, v57] h57 fun v58 h58 => κ v58 h58) h57 fun v59 h59 => pw.g1 v52 (fun κ => κ v59 h59) h59 fun v61 h61 => pw.g0 v61 (fun κ => κ (.p r 0) h61) h61 fun v63 h63 => pw.g0 v61 (fun κ => pw.ln 4 (.p q 0) h63 fun v64 => κ v64 h63) h63 fun v65 h65 => pw.g0 v61 (fun κ => pw.cf (Ok Try.prog (n + 4)) 139 [v63, v65] h65 fun v66 h66 => κ v66 h66) h65 fun v67 h67 => pw.g1 v52 (fun κ => pw.pk v61 (.b true) v67 fun v68 => κ v68 h67) h67 fun v69 h69 => pw.pk v52 v69 (.b false) fun v70 => pw.cd v70 (Bd h69 → K (.i .i64 8) h69) (F89_43 pw xx (Ok Try.prog (n + 4)) (fun v h' => Bd h' → K v h') h69)) := by
        intro own ho1 ho2 h6' e6
        subst e6
        rw [lq]
        refine hasG_ok (by omega) hfx ha ht6 fun h7 b hbd7 hb7 hb => ?_
        have hq7 := hb7.get (Nat.lt_of_lt_of_le hql hb6.1) (by simp) hq6
        cases b with
        | false =>
          simp (disch := omega) only [ws, Bool.not_false]
          intro hbd'
          exact hk h7 6 hbd' (hb06.trans hb7) (may0 6 fun h => by cases h) (no6 false hb rfl)
        | true =>
          have h0 := hb.1 rfl
          have ht7 := ht.keep hbd (hb06.trans hb7)
          cases own with
          | true =>
            simp (disch := omega) only [ws, Bool.not_true, F89_43]
            intro hbd'
            exact hk h7 0 hbd' (hb06.trans hb7) (may0 0 fun _ => ⟨h0, fun h => (ho1 h).1 rfl⟩) fun _ => rfl
          | false =>
            simp (disch := omega) only [ws, Bool.not_true, Bool.not_false]
            refine liveG_ok (by omega) hj ht7 fun _ => ?_
            by_cases hlv : now < es[j].l.un
            · simp (disch := omega) only [ws, dec_t hlv]
              intro hbd'
              refine hk h7 8 hbd' (hb06.trans hb7) (may0 8 fun h => by cases h) fun hc => ?_
              rcases hc with ⟨x, hx, hxm, _⟩ | ⟨_, _, _, _, ⟨i, hi, f1, _, f2⟩ | ⟨hc, _⟩⟩
              · exact absurd hxm (hno x hx)
              · have e : i = j := by omega
                subst e
                have := (ho1 hlv).2 f2
                cases this
              · exact absurd hlv (hc j hj g1)
            · simp (disch := omega) only [ws, dec_f hlv, ln_w (sz := 4) hq7 rfl]
              refine barredG_ok (by omega) ht7 fun h8 hbd8 hb8 => ?_
              by_cases hbar : now < barT ms a
              · simp (disch := omega) only [ws, dec_t hbar]
                intro hbd'
                refine hk h8 8 hbd' ((hb06.trans hb7).trans hb8) (may0 8 fun h => by cases h) fun hc => ?_
                rcases hc with ⟨x, hx, hxm, _⟩ | ⟨_, _, _, _, ⟨i, hi, f1, f2, _⟩ | ⟨_, hc⟩⟩
                · exact absurd hxm (hno x hx)
                · have e : i = j := by omega
                  subst e
                  exact absurd f2 hlv
                · exact absurd hbar hc
              · simp (disch := omega) only [ws, dec_f hbar, F89_43]
                intro hbd'
                exact hk h8 0 hbd' ((hb06.trans hb7).trans hb8) (may0 0 fun _ => ⟨h0, fun h => absurd h hlv⟩) fun _ => rfl
      by_cases hlv : now < es[j].l.un
      · obtain ⟨lv, fv, mb, kk, f1, f2, f3⟩ := id ht6
        have r3 : ∀ κ : V → Prop, pw.l1 (.p r (0 + 3)) h6 κ = κ lv := fun κ => l1_a f1 rfl
        simp (disch := omega) only [ws, dec_t hlv, r3]
        refine vece_at encH_len f2 (i := j) rfl hj fun b hab => ?_
        have l0 : ∀ κ : V → Prop, pw.ln 6 (.p b (j * 12 + 0 + 0)) h6 κ = κ (.a (maV es[j].l.m)) := fun κ => by
          rw [Nat.add_assoc, hab.getn (f := 0 + 0) (n := 6) (by omega)]; rfl
        simp (disch := omega) only [ws, l0, lp, eqm_ok]
        exact rest (decide (es[j].l.m = m)) (fun _ => decide_eq_true_iff) (fun h => absurd hlv h) h6 rfl
      · simp (disch := omega) only [ws, dec_f hlv]
        exact rest false (fun h => absurd h hlv) (fun _ => rfl) h6 rfl
  · simp (disch := omega) only [ws, List.getElem?_cons_zero, List.getElem?_cons_succ]
    refine al_a tt28 fun z h4 hz hb4 hz1 hz2 => ?_
    refine sn_w (w := .a (adV x.a)) (cs := adV x.a) hz rfl rfl rfl rfl fun h5 hg5 hb5 => ?_
    have hb35 : But h3 h5 none := hb4.over hb5 (.inr fun r e => by cases e; exact hz1)
    have hb05 := (hb02.trans hb3).trans hb35
    have hq5 := (hb3.trans hb35).get hq2 (by simp) hq
    simp (disch := omega) only [ws, ln_w (sz := 4) hq5 rfl, ln_w (sz := 4) hg5 rfl, nea_ok]
    by_cases c1 : a = x.a
    · simp (disch := omega) only [ws, dec_t c1, Bool.not_true, F89_83]
      intro hbd'
      exact hk h5 0 hbd' hb05 (fun _ => .inl ⟨x, hx, hxm, c1.symm⟩) fun _ => rfl
    · simp (disch := omega) only [ws, dec_f c1, Bool.not_false]
      intro hbd'
      refine hk h5 8 hbd' hb05 (fun h => by cases h) fun hc => ?_
      rcases hc with ⟨y, hy, hym, hya⟩ | ⟨hc, _⟩
      · rw [hu y hy x hx (hym.trans hxm.symm)] at hya
        exact absurd hya.symm c1
      · exact absurd hxm (hc x hx)
end Go.Proofs.Ytfkbofbdonmpfaa.Wb
