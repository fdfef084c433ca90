/- Who has which address, with fixed devices and barred addresses: 'Take'. -/
import Derived.Test.YtfkbofbdonmpfaaPr8
set_option linter.unusedSimpArgs false
set_option linter.unusedVariables false
set_option linter.unusedSectionVars false
set_option linter.unnecessarySimpa false
set_option maxRecDepth 100000
namespace Go.Proofs.Ytfkbofbdonmpfaa.Wb
open Go.Am

/-- A live lease of the device's of another address ends. -/
inductive EndP (T m a : Int) (es : List He) : List He → Prop
  | no : (∀ i (h : i < es.length), fndP (isM T m) es 0 = (i : Nat) → es[i].l.a = a) → EndP T m a es es
  | yes (i : Nat) (h : i < es.length) : fndP (isM T m) es 0 = (i : Nat) → es[i].l.a ≠ a → EndP T m a es (es.set i ⟨{ es[i].l with un := 0 }, es[i].told⟩)

set_option maxHeartbeats 1000000 in
theorem takeG_ok {n : Nat} (hn : 6 ≤ n) {r : Nat} {c : Option Nat} {fx : List Le} {ms : List (V × V × Nat)} {first last tn t a m s : Int} (hfx : fx.length ≤ 10000) (hu : ∀ x ∈ fx, ∀ y ∈ fx, x.m = y.m → x = y) (hT : 0 ≤ timeP tn t ∧ timeP tn t ≤ 1099511627776) (ha : 0 ≤ a ∧ a ≤ 255) {es : List He} (hl : es.length ≤ 9999) {h : H} {K : V → H → Prop} (ht : PG h r c fx ms first last tn es)
    (k1 : ∀ h' e, Bd h' → But h h' (some r) → PG h' r c fx ms first last (timeP tn t) es → (e = 0 → False) → (1 ≤ s → s ≤ 1000000000 → MayC (timeP tn t) fx ms first last m a es → False) → K (.i .i64 e) h')
    (k2 : ∀ h' c' es1, Bd h' → But2 h h' r c → (c' = c ∨ ∃ z, c' = some z ∧ h.next ≤ z) → 1 ≤ s ∧ s ≤ 1000000000 → MayP (timeP tn t) fx first last m a es 0 → EndP (timeP tn t) m a es es1 → PG h' r c' fx ms first last (timeP tn t) (putA ⟨⟨m, a, timeP tn t + s⟩, false⟩ a es1) → K (.i .i64 0) h') : Ok Try.prog n 42 [.p r 0, .a (maV m), .a (adV a), .i .i64 t, .i .i64 s] h K := by
  obtain ⟨n, rfl⟩ := Nat.exists_eq_add_of_le' hn
  refine Ok.bd (K42 (n := n + 5) fun hbd => ?_)
  obtain ⟨hr, hc⟩ := ht.lt hbd
  simp only [F42]
  refine bx_a (cs := maV m) rfl fun p h1 hp hb1 hp1 hp2 => ?_
  refine bx_a (cs := adV a) rfl fun q h2 hq hb2 hq1 hq2 => ?_
  have hb02 := hb1.trans hb2
  have hp' := hb2.get hp2 (by simp) hp
  rw [cf_k]
  refine timeG_ok (by omega) (ht.keep hbd hb02) fun h3 hbd3 hb3 ht3 => ?_
  generalize timeP tn t = T at hT k1 k2 ht3 ⊢
  have hp3 := hb3.get (Nat.lt_of_lt_of_le hp2 hb2.1) (by intro e; cases e; omega) hp'
  have hq3 := hb3.get hq2 (by intro e; cases e; have := hb1.1; omega) hq
  have hpl : p < h3.next := Nat.lt_of_lt_of_le hp2 (Nat.le_trans hb2.1 hb3.1)
  have hql : q < h3.next := Nat.lt_of_lt_of_le hq2 hb3.1
  have hb03' : But h h3 (some r) := (hb02.none _).trans hb3
  have hb03 : But2 h h3 r c := (hb02.two (.inl rfl)).trans (hb3.two (.inr (.inl rfl)))
  rw [cf_k]
  refine secs_ok (by omega) fun _ => ?_
  by_cases hs : 1 ≤ s ∧ s ≤ 1000000000
  rotate_left
  · have e2 : (decide (1 ≤ s) && decide (s ≤ 1000000000)) = false := by
      rw [Bool.and_eq_false_iff, decide_eq_false_iff_not, decide_eq_false_iff_not]; omega
    simp (disch := omega) only [ws, e2, Bool.not_false]
    intro hbd'
    exact k1 h3 1 hbd' hb03' ht3 (fun h => by cases h) fun s1 s2 _ => hs ⟨s1, s2⟩
  have e2 : (decide (1 ≤ s) && decide (s ≤ 1000000000)) = true := by
    rw [Bool.and_eq_true, decide_eq_true_iff, decide_eq_true_iff]; exact hs
  simp (disch := omega) only [ws, e2, Bool.not_true, F42_13, ln_w (sz := 6) hp3 rfl, ln_w (sz := 4) hq3 rfl]
  refine mayG_ok (by omega) hfx hu ha (by omega) ht3 fun h4 e hbd4 hb4 hmay hmc => ?_
  by_cases he : e = 0
  rotate_left
  · simp (disch := omega) only [ws, dec_f he, Bool.not_false]
    intro hbd'
    exact k1 h4 e hbd' (hb03'.trans (hb4.none _)) (ht3.keep hbd3 hb4) he fun _ _ hc => he (hmc hc)
  subst he
  have hp4 := hb4.get hpl (by simp) hp3
  have hq4 := hb4.get hql (by simp) hq3
  simp (disch := omega) only [ws, decide_true, Bool.not_true, F42_19, ln_w (sz := 6) hp4 rfl]
  refine byG_ok (by omega) (ht3.keep hbd3 hb4) (by omega) fun h5 hbd5 hb5 => ?_
  have hb35 := hb4.trans hb5
  have hp5 := hb35.get hpl (by simp) hp3
  have hq5 := hb35.get hql (by simp) hq3
  have ht5 := ht3.keep hbd3 hb35
  have hb05 : But2 h h5 r c := hb03.trans (hb35.two (.inl rfl))
  have fin : ∀ (h6 : H) (es1 : List He), Bd h6 → But h5 h6 c → es1.length = es.length → EndP T m a es es1 → PG h6 r c fx ms first last T es1 → F42_25 pw xx (Ok Try.prog (n + 5)) (fun v h' => Bd h' → K v h') (.p r 0) (.i .i64 T) (.i .i64 s) (.p p 0) (.p q 0) h6 := by
    intro h6 es1 hbd6 hb6 hl1 hend ht6
    have hpc : some p ≠ c := fun e => by have := hc p e.symm; omega
    have hqc : some q ≠ c := fun e => by have := hc q e.symm; have := hb1.1; omega
    refine takT_ok (n := n + 1) hT hs (by omega) hbd6 ht6 (hb6.get (Nat.lt_of_lt_of_le hpl hb35.1) hpc hp5) (hb6.get (Nat.lt_of_lt_of_le hql hb35.1) hqc hq5) fun h7 c' hbd7 hb7 hc7 ht7 => ?_
    refine k2 h7 c' es1 hbd7 ((hb05.trans (hb6.two (.inr (.inr rfl)))).trans hb7) ?_ hs hmay hend ht7
    rcases hc7 with h | ⟨z, h, hz⟩
    · exact .inl h
    · exact .inr ⟨z, h, Nat.le_trans hb05.1 (Nat.le_trans hb6.1 hz)⟩
  by_cases hneg : fndP (isM T m) es 0 < 0
  · simp (disch := omega) only [ws, dec_f]
    exact fin h5 es hbd5 (But.refl _ _) rfl (.no fun i h h2 => by omega) ht5
  · obtain ⟨i, hi, g1, g2, _⟩ := fndP_some (show 0 ≤ fndP (isM T m) es 0 by omega)
    rw [Nat.zero_add] at g1
    obtain ⟨lv, fv, mb, kk, f1, f2, f3, f4, f5, f6, f7, f8, f9⟩ := id ht5
    have hcm := PG.mb f2 f3 f5
    have r3 : ∀ κ : V → Prop, pw.l1 (.p r (0 + 3)) h5 κ = κ lv := fun κ => l1_a f1 rfl
    rw [g1]
    simp (disch := omega) only [ws, dec_t, r3]
    refine vece_at encH_len f2 (i := i) rfl hi fun b hab => ?_
    have l6 : ∀ κ : V → Prop, pw.ln 4 (.p b (i * 12 + 0 + 6)) h5 κ = κ (.a (adV es[i].l.a)) := fun κ => by
      rw [Nat.add_assoc, hab.getn (f := 0 + 6) (n := 4) (by omega)]; rfl
    simp (disch := omega) only [ws, l6, ln_w (sz := 4) hq5 rfl, nea_ok]
    by_cases ca : es[i].l.a = a
    · simp (disch := omega) only [ws, dec_t ca, Bool.not_true]
      exact fin h5 es hbd5 (But.refl _ _) rfl (.no fun j h h2 => by
        have : j = i := by omega
        subst this
        exact ca) ht5
    · simp (disch := omega) only [ws, dec_f ca, Bool.not_false, r3]
      refine vece_at encH_len f2 (i := i) rfl hi fun b2 ha2 => ?_
      simp only [fa_p, Nat.add_assoc]
      refine vece_set1 encH_len f2 (i := i) hi ha2.blk (f := 0 + 10) (by omega) rfl (e' := ⟨{ es[i].l with un := 0 }, es[i].told⟩) rfl fun h6 hv6 hb6 => ?_
      rw [f3] at hb6
      refine fin h6 _ (hb6.2.2 hbd5) hb6 (by simp) (.yes i hi g1 ca) ⟨lv, fv, mb, kk, hb6.get (hbd5 _ _ f1) (fun e => f4 e.symm) f1, hv6, f3, f4, hb6.get (hbd5 _ _ f5) (fun e => hcm e.symm) f5, f6, f7.keep (f7.lt hbd5) hb6 (by
        cases hc : c with
        | none => exact .inr rfl
        | some z => exact .inl (f9 z hc)), f8, f9⟩
end Go.Proofs.Ytfkbofbdonmpfaa.Wb
