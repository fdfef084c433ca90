/- Who has which address, with fixed devices and barred addresses: 'Bar'. -/
import Derived.Test.YtfkbofbdonmpfaaPr10
import Derived.Test.YtfkbofbdonmpfaaM5
set_option linter.unusedSimpArgs false
set_option linter.unusedVariables false
set_option linter.unusedSectionVars false
set_option linter.unnecessarySimpa false
set_option maxRecDepth 100000
namespace Go.Proofs.Ytfkbofbdonmpfaa.Wb
open Go.Am

/-- All cells but those of two blocks stay: maps may change. -/
def ButM (h h' : H) (r : Nat) (c : Option Nat) : Prop := h.next ≤ h'.next ∧ (∀ q l ty w, q < h.next → q ≠ r → some q ≠ c → h.mem.get q = some (.c l ty w) → h'.mem.get q = some (.c l ty w)) ∧ (Bd h → Bd h')
theorem ButM.of1 {h h' : H} {r : Nat} {c : Option Nat} (k : But h h' (some r)) : ButM h h' r c := ⟨k.1, fun q l ty w hq hr _ hg => k.get hq (by intro e; cases e; exact hr rfl) hg, k.2.2⟩
theorem ButM.of0 {h h' : H} {r : Nat} {c : Option Nat} (k : But h h' none) : ButM h h' r c := ButM.of1 (k.none _)
theorem ButM.of2 {h h' : H} {r : Nat} {c : Option Nat} (k : But2 h h' r c) : ButM h h' r c := ⟨k.1, fun q l ty w hq hr hc hg => k.get hq hr hc hg, k.2.2⟩
theorem ButM.ofm {h h' : H} {r mb k : Nat} {c : Option Nat} {ms : List (V × V × Nat)} (b : But h h' (some mb)) (hm : h.mem.get mb = some (.mp ms k)) : ButM h h' r c := ⟨b.1, fun q l ty w hq _ _ hg => b.get hq (by intro e; cases e; rw [hm] at hg; cases hg) hg, b.2.2⟩
theorem ButM.trans {a b d : H} {r : Nat} {c : Option Nat} (h : ButM a b r c) (k : ButM b d r c) : ButM a d r c := ⟨Nat.le_trans h.1 k.1, fun q l ty w hq hr hc hg => k.2.1 q l ty w (Nat.lt_of_lt_of_le hq h.1) hr hc (h.2.1 q l ty w hq hr hc hg), k.2.2 ∘ h.2.2⟩
theorem flat_keepM {h h' : H} {sz : Nat} {v : V} {es : List (List V)} {r : Nat} {b : Option Nat} (hb : FlatAt h sz v es) (hd : ∀ q, vblk v = some q → q < h.next ∧ q ≠ r ∧ b ≠ some q) (hk : ButM h h' r b) : FlatAt h' sz v es := by
  cases v with
  | sl p o n c e =>
    obtain ⟨h1, h1', l, t, w, h2, h3⟩ := hb
    obtain ⟨a1, a2, a3⟩ := hd _ rfl
    exact ⟨h1, h1', l, t, w, hk.2.1 _ _ _ _ a1 a2 (fun e => a3 e.symm) h2, h3⟩
  | _ => exact hb
theorem vece_blkt {α : Type} {h : H} {v : V} {el sz : Nat} {enc : α → List V} {es : List α} (hv : VecE h v el sz enc es) {z : Nat} (hz : vblk v = some z) : ∃ l, h.mem.get z = some (.c l el true) := by
  obtain ⟨_, ⟨rfl, _⟩ | ⟨q, cap, e, l, rfl, h2, _⟩⟩ := hv
  · cases hz
  · cases hz
    exact ⟨l, h2⟩

theorem barG_ok {n : Nat} (hn : 5 ≤ n) {r : Nat} {c : Option Nat} {fx : List Le} {ms : List (V × V × Nat)} {first last tn t a s : Int} (hfx : fx.length ≤ 10000) (hT : 0 ≤ timeP tn t ∧ timeP tn t ≤ 1099511627776) (ha : 0 ≤ a ∧ a ≤ 255) {es : List He} (hl : es.length ≤ 10000) {h : H} {K : V → H → Prop} (ht : PG h r c fx ms first last tn es)
    (hk : ∀ h' ms' es' b, Bd h' → ButM h h' r c → PG h' r c fx ms' first last (timeP tn t) es' → (es' = es ∨ ∃ j, ∃ hj : j < es.length, es' = es.set j ⟨{ es[j].l with un := 0 }, es[j].told⟩) → K (.b b) h') : Ok Try.prog n 45 [.p r 0, .a (adV a), .i .i64 t, .i .i64 s] h K := by
  obtain ⟨n, rfl⟩ := Nat.exists_eq_add_of_le' hn
  refine Ok.bd (K45 (n := n + 4) fun hbd => ?_)
  obtain ⟨hr, hc⟩ := ht.lt hbd
  simp only [F45]
  refine bx_a (cs := adV a) rfl fun q h1 hq hb1 hq1 hq2 => ?_
  rw [cf_k]
  refine timeG_ok (by omega) (ht.keep hbd hb1) fun h2 hbd2 hb2 ht2 => ?_
  generalize timeP tn t = T at hT hk ht2 ⊢
  have hq' := hb2.get hq2 (by intro e; cases e; omega) hq
  have hql : q < h2.next := Nat.lt_of_lt_of_le hq2 hb2.1
  have hb02 : But h h2 (some r) := (hb1.none _).trans hb2
  rw [ln_w (sz := 4) hq' rfl, cf_k]
  refine hasG_ok (by omega) hfx ha ht2 fun h3 b hbd3 hb3 hb => ?_
  have hb03 : But h h3 (some r) := hb02.trans (hb3.none _)
  have ht3 := ht2.keep hbd2 hb3
  have hq3 := hb3.get hql (by simp) hq'
  have hql3 : q < h3.next := Nat.lt_of_lt_of_le hql hb3.1
  have no : ∀ h4, Bd h4 → But h3 h4 none → K (.b false) h4 := fun h4 hbd4 hb4 => hk h4 ms es false hbd4 (ButM.of1 (hb03.trans (hb4.none _))) (ht3.keep hbd3 hb4) (.inl rfl)
  cases b with
  | false =>
    simp (disch := omega) only [ws, Bool.not_false]
    intro hbd'
    exact no h3 hbd' (But.refl _ _)
  | true =>
    simp (disch := omega) only [ws, Bool.not_true]
    refine secs_ok (by omega) fun _ => ?_
    by_cases hs : 1 ≤ s ∧ s ≤ 1000000000
    rotate_left
    · have e2 : (decide (1 ≤ s) && decide (s ≤ 1000000000)) = false := by
        rw [Bool.and_eq_false_iff, decide_eq_false_iff_not, decide_eq_false_iff_not]; omega
      simp (disch := omega) only [ws, e2, Bool.not_false]
      intro hbd'
      exact no h3 hbd' (But.refl _ _)
    have e2 : (decide (1 ≤ s) && decide (s ≤ 1000000000)) = true := by
      rw [Bool.and_eq_true, decide_eq_true_iff, decide_eq_true_iff]; exact hs
    obtain ⟨lv, fv, mb, k, g1, g2, g3, g4, g5, g6, g7, g8, g9⟩ := id ht3
    have hcm := PG.mb g2 g3 g5
    have r4 : ∀ κ : V → Prop, pw.l1 (.p r (0 + 4)) h3 κ = κ (.m mb) := fun κ => l1_a g1 rfl
    simp (disch := omega) only [ws, e2, Bool.not_true, F45_11, r4, ln_w (sz := 4) hq3 rfl]
    refine mp_a g5 g6 fun v h4 ms' k' hm' hok' hb4 => ?_
    have hbd4 := hb4.2.2 hbd3
    have hrm : r ≠ mb := fun e => by rw [e, g5] at g1; cases g1
    have hqm : q ≠ mb := fun e => by rw [e, g5] at hq3; cases hq3
    have ht4 : PG h4 r c fx ms' first last T es := by
      refine ⟨lv, fv, mb, k', hb4.get (hbd3 _ _ g1) (fun e => hrm (by cases e; rfl)) g1, g2.keep (g2.lt hbd3) hb4 (.inl (by rw [g3]; exact hcm)), g3, g4, hm', hok', g7.keep (g7.lt hbd3) hb4 (.inl fun e => ?_), g8, g9⟩
      obtain ⟨l, hl⟩ := vece_blkt g7 e
      rw [g5] at hl; cases hl
    have hq4 := hb4.get hql3 (fun e => hqm (by cases e; rfl)) hq3
    have hb04 : ButM h h4 r c := (ButM.of1 hb03).trans (ButM.ofm hb4 g5)
    simp (disch := omega) only [ws, ln_w (sz := 4) hq4 rfl]
    refine ofG_ok (by omega) ht4 hl fun h5 hbd5 hb5 => ?_
    have hb05 : ButM h h5 r c := hb04.trans (ButM.of0 hb5)
    have ht5 := ht4.keep hbd4 hb5
    by_cases hneg : fndP (isA a) es 0 < 0
    · simp (disch := omega) only [ws, dec_f, F45_25]
      intro hbd'
      exact hk h5 ms' es true hbd' hb05 ht5 (.inl rfl)
    obtain ⟨j, hj, f1, f2, _⟩ := fndP_some (show 0 ≤ fndP (isA a) es 0 by omega)
    rw [Nat.zero_add] at f1
    obtain ⟨lv, fv, mb, k, y1, y2, y3, y4, y5, y6, y7, y8, y9⟩ := id ht5
    have hcm5 := PG.mb y2 y3 y5
    have r3 : ∀ κ : V → Prop, pw.l1 (.p r (0 + 3)) h5 κ = κ lv := fun κ => l1_a y1 rfl
    rw [f1]
    simp (disch := omega) only [ws, dec_t, r3]
    refine vece_at encH_len y2 (i := j) rfl hj fun b2 ha2 => ?_
    simp only [fa_p, Nat.add_assoc]
    refine vece_set1 encH_len y2 (i := j) hj ha2.blk (f := 0 + 10) (by omega) rfl (e' := ⟨{ es[j].l with un := 0 }, es[j].told⟩) rfl fun h6 hv6 hb6 => ?_
    simp only [F45_25]
    intro hbd6
    rw [y3] at hb6
    refine hk h6 ms' _ true hbd6 (hb05.trans (ButM.of2 (hb6.two (.inr (.inr rfl))))) ⟨lv, fv, mb, k, hb6.get (hbd5 _ _ y1) (fun e => y4 e.symm) y1, hv6, y3, y4, hb6.get (hbd5 _ _ y5) (fun e => hcm5 e.symm) y5, y6, y7.keep (y7.lt hbd5) hb6 (by
      cases hc : c with
      | none => exact .inr rfl
      | some z => exact .inl (y9 z hc)), y8, y9⟩ (.inr ⟨j, hj, rfl⟩)
end Go.Proofs.Ytfkbofbdonmpfaa.Wb
