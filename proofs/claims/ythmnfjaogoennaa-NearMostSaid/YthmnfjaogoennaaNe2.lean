/- Who is where: the walks of the table's time, its room, its methods. -/
import Derived.Test.YthmnfjaogoennaaNe1
import Derived.Test.YthmnfjaogoennaaM3
set_option linter.unusedSimpArgs false
set_option linter.unusedVariables false
set_option linter.unusedSectionVars false
set_option linter.unnecessarySimpa false
set_option maxRecDepth 100000
namespace Go.Proofs.Ythmnfjaogoennaa.Wb
open Go.Am

/-- The table's cells, but for the entries' block, are laid anew. -/
theorem NT.time {h : H} {r : Nat} {c : Option Nat} {now : Int} {es : List Ent} (hbd : Bd h) {lv : V} (h1 : h.mem.get r = some (.c [.i .i64 1000, .i .i64 now, lv] 62 true)) (h2 : VecE h lv 66 14 enc es) (h3 : vblk lv = c ∧ c ≠ some r) {h' : H} {now' : Int} (hg : h'.mem.get r = some (.c [.i .i64 1000, .i .i64 now', lv] 62 true)) (hb : But h h' (some r)) : NT h' r c now' es :=
  ⟨lv, hg, h2.keep (h2.lt hbd) hb (.inl (by rw [h3.1]; exact h3.2)), h3⟩

/-- 'time': the greatest so far. -/
theorem time_ok {n : Nat} (hn : 1 ≤ n) {r : Nat} {c : Option Nat} {now t : Int} {es : List Ent} {h : H} {K : V → H → Prop} (ht : NT h r c now es) (h0 : 0 ≤ t ∧ t ≤ 1000000) (hn0 : now ≤ 1000000)
    (hk : ∀ h', Bd h' → But h h' (some r) → NT h' r c (if now < t then t else now) es → K (.i .i64 (if now < t then t else now)) h') : Ok Try.prog n 34 [.p r 0, .i .i64 t] h K := by
  obtain ⟨n, rfl⟩ := Nat.exists_eq_add_of_le' hn
  refine Ok.bd (K34 fun hbd => ?_)
  obtain ⟨lv, h1, h2, h3⟩ := ht
  simp (disch := omega) only [F34, ws, wm, Nat.zero_add, h1, List.getElem?_cons_succ, List.getElem?_cons_zero]
  by_cases hc : now < t
  · simp (disch := omega) only [dec_t hc, ws, dec_t]
    refine s1_a h1 (by simp) rfl fun h' hg hb => ?_
    simp only [F34_4, nl_p, fa_p, Nat.zero_add]
    rw [l1_a hg rfl]
    simp only [if_pos hc] at hk
    exact fun hbd' => hk h' hbd' hb (NT.time hbd h1 h2 h3 hg hb)
  · simp (disch := omega) only [dec_f hc, ws, wm, F34_4, Nat.zero_add, h1, List.getElem?_cons_succ, List.getElem?_cons_zero]
    simp only [if_neg hc] at hk
    exact fun hbd' => hk h hbd' (But.refl _ _) ⟨lv, h1, h2, h3⟩

/-- 'Len'. -/
theorem len_ok {n : Nat} (hn : 1 ≤ n) {r : Nat} {c : Option Nat} {now : Int} {es : List Ent} {h : H} {K : V → H → Prop} (ht : NT h r c now es) (hk : K (.i .i64 (es.length : Nat)) h) : Ok Try.prog n 30 [.p r 0] h K := by
  obtain ⟨n, rfl⟩ := Nat.exists_eq_add_of_le' hn
  refine K30 fun hbd => ?_
  obtain ⟨lv, h1, h2, h3⟩ := ht
  simp (disch := omega) only [F30, ws, wm, Nat.zero_add, h1, List.getElem?_cons_succ, List.getElem?_cons_zero, vece_len tt60 rfl h2]
  exact hk

/-- The law's own 'addr'. -/
theorem addr_ok {n : Nat} (hn : 1 ≤ n) {a : Nat} (ha : a < 256) {h : H} {K : V → H → Prop} (hk : ∀ h', Bd h' → But h h' none → K (adr a) h') : Ok Try.prog n 27 [.i .i64 (a : Int)] h K := by
  obtain ⟨n, rfl⟩ := Nat.exists_eq_add_of_le' hn
  refine Ok.bd (K27 fun hbd => ?_)
  simp (disch := omega) only [F27]
  refine al_a tt45 fun b h1 hg hb _ _ => ?_
  simp (disch := omega) only [ws]
  refine bl_a (v := adr a) ?_ ?_
  · simp only [blW, ti, tt45, tt5, placesArr, cellsOfV, fillA]; rfl
  refine sn_w (w := adr a) (cs := [.i .u8 10, .i .u8 0, .i .u8 0, .i .u8 (a : Int)]) hg rfl rfl rfl rfl fun h2 hg2 hb2 => ?_
  rw [ln_w (sz := 4) hg2 rfl]
  intro hbd'
  refine hk h2 hbd' (hb.over hb2 (.inr fun r e => ?_))
  cases e; assumption

/-- 'fresh', of an entry that is known and not too old; of one that is not known. -/
theorem fresh_ok {n : Nat} (hn : 1 ≤ n) {r : Nat} {c : Option Nat} {now t : Int} {es : List Ent} {e : Ent} {h : H} {K : V → H → Prop} (ht : NT h r c now es) (h0 : 0 ≤ t ∧ t ≤ 1000000) (hn0 : 0 ≤ e.at' ∧ e.at' ≤ 1000000)
    (hk : ∀ h', Bd h' → But h h' none → K (.b (e.kn && decide (t - e.at' < 1000))) h') : Ok Try.prog n 37 [.p r 0, .a (enc e), .i .i64 t] h K := by
  obtain ⟨n, rfl⟩ := Nat.exists_eq_add_of_le' hn
  refine Ok.bd (K37 fun hbd => ?_)
  simp (disch := omega) only [F37]
  refine bx_a (cs := enc e) rfl fun b h1 hg hb _ _ => ?_
  obtain ⟨lv, g1, _⟩ := ht.keep hbd hb
  rw [fa_p, l1_a hg (x := .b e.kn) rfl]
  cases hkn : e.kn with
  | false =>
    simp (disch := omega) only [ws]
    intro hbd'
    have := hk h1 hbd' hb
    rw [hkn] at this
    exact this
  | true =>
    simp (disch := omega) only [ws, wm, Nat.zero_add, Nat.add_zero, hg, g1, enc, List.getElem?_cons_succ, List.getElem?_cons_zero]
    intro hbd'
    have := hk h1 hbd' hb
    rw [hkn, Bool.true_and] at this
    exact this
end Go.Proofs.Ythmnfjaogoennaa.Wb
