/- Which port is whose: the walks of 'In', 'Len', 'New' and of the law's own 'at'. -/
import Derived.Test.YtbkhielalbbopaaGreatDoorYo5
set_option linter.unusedSimpArgs false
set_option linter.unusedVariables false
set_option linter.unusedSectionVars false
set_option linter.unnecessarySimpa false
set_option maxRecDepth 100000
namespace Go.Proofs.YtbkhielalbbopaaGreatDoor.Wb
open Go.Am

theorem at_ok {n : Nat} (hn : 1 ≤ n) {a : Int} (ha : 0 ≤ a ∧ a ≤ 255) {h : H} {K : V → H → Prop} (hk : ∀ h', Bd h' → But h h' none → K (.a (encA ⟨10, 0, 0, a⟩)) h') : Ok Tryz.prog n 19 [.i .i64 a] h K := by
  obtain ⟨n, rfl⟩ := Nat.exists_eq_add_of_le' hn
  refine Ok.bd (K19 fun hbd => ?_)
  simp (disch := omega) only [F19]
  refine al_a tt41 fun b h1 hg hb _ _ => ?_
  simp (disch := omega) only [ws]
  refine bl_a (v := .a (encA ⟨10, 0, 0, a⟩)) ?_ ?_
  · simp only [blW, ti, tt41, tt5, placesArr, cellsOfV, fillA]; rfl
  refine sn_w (w := .a (encA ⟨10, 0, 0, a⟩)) (cs := encA ⟨10, 0, 0, a⟩) hg rfl rfl rfl rfl fun h2 hg2 hb2 => ?_
  rw [ln_w (sz := 4) hg2 rfl]
  intro hbd'
  refine hk h2 hbd' (hb.over hb2 (.inr fun r e => ?_))
  cases e; assumption

theorem new_ok {n : Nat} (hn : 1 ≤ n) {low room : Int} (hl : 1024 ≤ low ∧ low ≤ 60000) (hr : 1 ≤ room ∧ room ≤ 128) {h : H} {K : V → H → Prop} (hk : ∀ r h', Bd h' → But h h' none → h.next ≤ r → PT h' r none low room 0 [] → K (.t [.p r 0, .i .i64 0]) h') : Ok Tryz.prog n 13 [.i .i64 low, .i .i64 room] h K := by
  obtain ⟨n, rfl⟩ := Nat.exists_eq_add_of_le' hn
  refine Ok.bd (K13 fun hbd => ?_)
  simp (disch := omega) only [F13, ws, dec_f, F13_5]
  refine bl_a (v := .a [.i .i64 low, .i .i64 room, .i .i64 0, .ns]) ?_ ?_
  · simp only [blW, ti, tt86, placesSt, cellsOfV, List.getElem?_cons_zero, List.getElem?_cons_succ, fillA]; rfl
  refine bx_a (cs := [.i .i64 low, .i .i64 room, .i .i64 0, .ns]) rfl fun r h1 hg hb h2 h3 => ?_
  intro hbd'
  exact hk r h1 hbd' hb h2 ⟨.ns, hg, ⟨rfl, .inl ⟨rfl, rfl⟩⟩, rfl, by simp⟩

theorem len_ok {n : Nat} (hn : 3 ≤ n) {r : Nat} {c : Option Nat} {low room tn t : Int} {es : List Mp} {h : H} {K : V → H → Prop} (ht : PT h r c low room tn es) (hl : es.length ≤ 10000)
    (hk : ∀ h', Bd h' → But h h' (some r) → PT h' r c low room (timeP tn t) es → K (.i .i64 (cntL (timeP tn t) es)) h') : Ok Tryz.prog n 17 [.p r 0, .i .i64 t] h K := by
  obtain ⟨n, rfl⟩ := Nat.exists_eq_add_of_le' hn
  refine K17 (n := n + 2) fun hbd => ?_
  simp (disch := omega) only [F17, cf_k]
  refine time_ok (by omega) ht fun h1 hbd1 hb1 ht1 => ?_
  refine count_ok (by omega) ht1 hl fun h2 hbd2 hb2 => ?_
  exact hk h2 hbd2 (hb1.trans (hb2.none _)) (ht1.keep hbd1 hb2)

theorem in_ok {n : Nat} (hn : 5 ≤ n) {r : Nat} {c : Option Nat} {low room tn t p o : Int} {es : List Mp} {h : H} {K : V → H → Prop} (ht : PT h r c low room tn es) (hl : es.length ≤ 10000)
    (k1 : ∀ h', Bd h' → But h h' (some r) → PT h' r c low room (timeP tn t) es → fndP (fdE p o (timeP tn t)) es 0 < 0 → K (.t [.a (encM m0), .b false]) h')
    (k2 : ∀ h' j, Bd h' → But h h' (some r) → PT h' r c low room (timeP tn t) es → ∀ hj : j < es.length, fndP (fdE p o (timeP tn t)) es 0 = (j : Nat) → fdE p o (timeP tn t) es[j] = true → K (.t [.a (encM es[j]), .b true]) h') : Ok Tryz.prog n 21 [.p r 0, .i .i64 p, .i .i64 o, .i .i64 t] h K := by
  obtain ⟨n, rfl⟩ := Nat.exists_eq_add_of_le' hn
  refine Ok.bd (K21 (n := n + 4) fun hbd => ?_)
  obtain ⟨hr, hc⟩ := ht.lt hbd
  simp (disch := omega) only [F21]
  refine al_a tt55 fun q h1 hq hb1 hq1 hq2 => ?_
  have hbd1 := hb1.2.2 hbd
  rw [cf_k]
  refine time_ok (by omega) (ht.keep hbd hb1) fun h2 hbd2 hb2 ht2 => ?_
  generalize timeP tn t = T at k1 k2 ht2 ⊢
  rw [cf_k]
  refine find_ok (by omega) ht2 hl fun h3 hbd3 hb3 => ?_
  have hrq : r ≠ q := Nat.ne_of_lt (Nat.lt_of_lt_of_le hr hq1)
  have hcq : c ≠ some q := fun e => by have := hc q e; omega
  have hq3 := hb3.get (Nat.lt_of_lt_of_le hq2 hb2.1) (by simp) (hb2.get hq2 (by intro e; cases e; exact hrq rfl) hq)
  have ht3 := ht2.keep hbd2 hb3
  have hb03 : But h h3 (some r) := ((hb1.none _).trans hb2).trans (hb3.none _)
  obtain ⟨lv, g1, g2, rfl, g4⟩ := id ht3
  have fin : ∀ h4 : H, Bd h4 → But h3 h4 (some q) → But h h4 (some r) ∧ PT h4 r (vblk lv) low room T es := fun h4 hbd4 hb4 => ⟨hb03.over hb4 (.inr fun z e => by cases e; exact hq1), lv, hb4.get (hbd3 _ _ g1) (by intro e; cases e; exact hrq rfl) g1, g2.keep (g2.lt hbd3) hb4 (.inl hcq), rfl, g4⟩
  by_cases hf : fndP (fdE p o T) es 0 < 0
  · simp (disch := omega) only [ws, dec_t hf]
    refine bl_a blm0 ?_
    refine sn_w (w := .a (encM m0)) (cs := encM m0) hq3 rfl (encM_len _) rfl (encM_one _) fun h4 hq4 hb4 => ?_
    rw [ln_w (sz := 9) hq4 rfl]
    intro hbd4
    obtain ⟨a1, a2⟩ := fin h4 hbd4 hb4
    exact k1 h4 hbd4 a1 a2 hf
  · obtain ⟨j, hj, e1, e2, e3⟩ := fndP_some (show 0 ≤ fndP (fdE p o T) es 0 by omega)
    rw [Nat.zero_add] at e1
    have r3 : ∀ κ : V → Prop, pw.l1 (.p r (0 + 3)) h3 κ = κ lv := fun κ => l1_a g1 rfl
    simp (disch := omega) only [ws, e1, dec_f, F21_15, r3]
    refine vece_at encM_len g2 (i := j) rfl hj fun b ha => ?_
    rw [ha.all]
    refine sn_w (w := .a (encM es[j])) (cs := encM es[j]) hq3 rfl (encM_len _) rfl (encM_one _) fun h4 hq4 hb4 => ?_
    rw [ln_w (sz := 9) hq4 rfl]
    intro hbd4
    obtain ⟨a1, a2⟩ := fin h4 hbd4 hb4
    exact k2 h4 j hbd4 a1 a2 hj e1 e2
end Go.Proofs.YtbkhielalbbopaaGreatDoor.Wb
