/- Who has which address, with fixed devices and barred addresses: 'End'. -/
import Derived.Test.YtfkbofbdonmpfaaPr5
set_option linter.unusedSimpArgs false
set_option linter.unusedVariables false
set_option linter.unusedSectionVars false
set_option linter.unnecessarySimpa false
set_option maxRecDepth 100000
namespace Go.Proofs.Ytfkbofbdonmpfaa.Wb
open Go.Am

theorem endG_ok {n : Nat} (hn : 4 ≤ n) {r : Nat} {c : Option Nat} {fx : List Le} {ms : List (V × V × Nat)} {first last now a m : Int} {es : List He} (hl : es.length ≤ 10000) {h : H} {K : V → H → Prop} (ht : PG h r c fx ms first last now es)
    (k1 : ∀ h', Bd h' → But h h' none → K (.b false) h')
    (k2 : ∀ h' j, Bd h' → But2 h h' r c → ∀ hj : j < es.length, PG h' r c fx ms first last now (es.set j ⟨{ es[j].l with un := 0 }, es[j].told⟩) → K (.b true) h') : Ok Try.prog n 50 [.p r 0, .a (maV m), .a (adV a)] h K := by
  obtain ⟨n, rfl⟩ := Nat.exists_eq_add_of_le' hn
  refine Ok.bd (K50 (n := n + 3) fun hbd => ?_)
  simp only [F50]
  refine bx_a (cs := maV m) rfl fun p h1 hpm hb1 hp1 hp2 => ?_
  refine bx_a (cs := adV a) rfl fun w h2 hw hb2 hw1 hw2 => ?_
  have hb02 := hb1.trans hb2
  rw [ln_w (sz := 4) hw rfl, cf_k]
  refine ofG_ok (by omega) (ht.keep hbd hb02) hl fun h3 hbd3 hb3 => ?_
  have hb03 := hb02.trans hb3
  have hp3 := (hb2.trans hb3).get hp2 (by simp) hpm
  by_cases hneg : fndP (isA a) es 0 < 0
  · simp (disch := omega) only [ws, dec_t hneg]
    intro hbd'
    exact k1 h3 hbd' hb03
  obtain ⟨j, hj, g1, g2, _⟩ := fndP_some (show 0 ≤ fndP (isA a) es 0 by omega)
  rw [Nat.zero_add] at g1
  obtain ⟨lv, fv, mb, kk, f1, f2, f3, f4, f5, f6, f7, f8, f9⟩ := ht.keep hbd hb03
  have hcm := PG.mb f2 f3 f5
  have r3 : ∀ κ : V → Prop, pw.l1 (.p r (0 + 3)) h3 κ = κ lv := fun κ => l1_a f1 rfl
  rw [g1]
  simp (disch := omega) only [ws, dec_f, r3]
  refine vece_at encH_len f2 (i := j) rfl hj fun b ha => ?_
  have l0 : ∀ κ : V → Prop, pw.ln 6 (.p b (j * 12 + 0 + 0)) h3 κ = κ (.a (maV es[j].l.m)) := fun κ => by
    rw [Nat.add_assoc, ha.getn (f := 0 + 0) (n := 6) (by omega)]; rfl
  simp (disch := omega) only [ws, l0, ln_w (sz := 6) hp3 rfl, nem_ok]
  by_cases hm : es[j].l.m = m
  · simp (disch := omega) only [ws, dec_t hm, Bool.not_true, F50_11, r3]
    refine vece_at encH_len f2 (i := j) rfl hj fun b2 ha2 => ?_
    simp only [fa_p, Nat.add_assoc]
    refine vece_set1 encH_len f2 (i := j) hj ha2.blk (f := 0 + 10) (by omega) rfl (e' := ⟨{ es[j].l with un := 0 }, es[j].told⟩) rfl fun h4 hv4 hb4 => ?_
    intro hbd4
    exact k2 h4 j hbd4 ((hb03.two (.inl rfl)).trans (hb4.two (.inr (.inr f3)))) hj ⟨lv, fv, mb, kk, hb4.get (hbd3 _ _ f1) (fun e => f4 (f3.symm.trans e.symm)) f1, hv4, f3, f4, hb4.get (hbd3 _ _ f5) (fun e => hcm (f3.symm.trans e.symm)) f5, f6, f7.keep (f7.lt hbd3) hb4 (by
      cases hc : c with
      | none =>
        rw [f3, hc]
        exact .inr rfl
      | some z =>
        rw [f3, hc]
        exact .inl (f9 z hc)), f8, f9⟩
  · simp (disch := omega) only [ws, dec_f hm, Bool.not_false]
    intro hbd'
    exact k1 h3 hbd' hb03
end Go.Proofs.Ytfkbofbdonmpfaa.Wb
