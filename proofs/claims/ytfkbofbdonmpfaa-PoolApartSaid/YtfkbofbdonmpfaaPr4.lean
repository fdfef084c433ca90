/- Who has which address, with fixed devices and barred addresses: the map of bars. -/
import Derived.Test.YtfkbofbdonmpfaaPr3
set_option linter.unusedSimpArgs false
set_option linter.unusedVariables false
set_option linter.unusedSectionVars false
set_option linter.unnecessarySimpa false
set_option maxRecDepth 100000
namespace Go.Proofs.Ytfkbofbdonmpfaa.Wb
open Go.Am

noncomputable def ti28 : TI := ⟨.arr 4 5, 4, 4, true, (some [.i, .i, .i, .i]), [.i .u8 0, .i .u8 0, .i .u8 0, .i .u8 0], (.a [.i .u8 0, .i .u8 0, .i .u8 0, .i .u8 0])⟩
theorem eq28 (a b : Int) : ∃ r, eqF ti28 (.a (adV a)) (.a (adV b)) = some r := by
  simp only [ti28, adV, eqF, eqK]
  exact ⟨_, rfl⟩
theorem find28 (a : Int) : ∀ (ms : List (V × V × Nat)) (n : Nat), MapOk ms → ∃ res, findKey ti28 (.a (adV a)) ms n = some res ∧ ∀ x, res = some x → ∃ t, x.2 = .i .i64 t
  | [], n, _ => by
    obtain ⟨r, hr⟩ := eq28 a a
    exact ⟨none, by simp only [findKey, hr], fun x h => by cases h⟩
  | (k, v, c) :: ms, n, hm => by
    obtain ⟨b, t, h1, h2⟩ := hm (k, v, c) (by simp)
    simp only at h1 h2
    subst h1 h2
    obtain ⟨r, hr⟩ := eq28 a b
    cases r with
    | true => exact ⟨some (n, .i .i64 t), by simp only [findKey, hr], fun x h => by cases h; exact ⟨t, rfl⟩⟩
    | false =>
      obtain ⟨res, e1, e2⟩ := find28 a ms (n + 1) fun x hx => hm x (by simp [hx])
      exact ⟨res, by simp only [findKey, hr]; exact e1, e2⟩
/-- Till when an address is barred. -/
def BarT (ms : List (V × V × Nat)) (a t : Int) : Prop := ∀ (h : H) (mb k : Nat), h.mem.get mb = some (.mp ms k) → ∀ κ : V → Prop, pw.lk xx 141 (.m mb) (.a (adV a)) false h κ = κ (.i .i64 t)
theorem look28 {ms : List (V × V × Nat)} (hok : MapOk ms) (a : Int) : ∃ t, BarT ms a t := by
  obtain ⟨res, e1, e2⟩ := find28 a ms 0 hok
  unfold ti28 at e1
  cases res with
  | none =>
    refine ⟨0, fun h mb k hm κ => ?_⟩
    have ht : rdKw xx 141 (.m mb) (.a (adV a)) false h.mem.get = some (.i .i64 0) := by
      simp only [rdKw, ti, tt141, tt28, tt2, entries, hm]
      rw [e1]
      rfl
    simp only [pw, ht, oP]
  | some x =>
    obtain ⟨t, ht⟩ := e2 x rfl
    refine ⟨t, fun h mb k hm κ => ?_⟩
    have ht2 : rdKw xx 141 (.m mb) (.a (adV a)) false h.mem.get = some (.i .i64 t) := by
      simp only [rdKw, ti, tt141, tt28, tt2, entries, hm]
      rw [e1]
      obtain ⟨n, v⟩ := x
      simp only at ht
      subst ht
      rfl
    simp only [pw, ht2, oP]
noncomputable def barT (ms : List (V × V × Nat)) (a : Int) : Int := Classical.epsilon fun t => BarT ms a t
theorem barT_ok {ms : List (V × V × Nat)} (hok : MapOk ms) (a : Int) : BarT ms a (barT ms a) := Classical.epsilon_spec (p := fun t => BarT ms a t) (look28 hok a)

theorem barredG_ok {n : Nat} (hn : 1 ≤ n) {r : Nat} {c : Option Nat} {fx : List Le} {ms : List (V × V × Nat)} {first last now a : Int} {es : List He} {h : H} {K : V → H → Prop} (ht : PG h r c fx ms first last now es) (hk : ∀ h', Bd h' → But h h' none → K (.b (decide (now < barT ms a))) h') : Ok Try.prog n 139 [.p r 0, .a (adV a)] h K := by
  obtain ⟨n, rfl⟩ := Nat.exists_eq_add_of_le' hn
  refine Ok.bd (K139 fun hbd => ?_)
  simp only [F139]
  refine bx_a (cs := adV a) rfl fun q h1 hq hb1 _ _ => ?_
  obtain ⟨lv, fv, mb, k, g1, g2, g3, g4, g5, g6, g7⟩ := ht.keep hbd hb1
  have r4 : ∀ κ : V → Prop, pw.l1 (.p r (0 + 4)) h1 κ = κ (.m mb) := fun κ => l1_a g1 rfl
  have r5 : ∀ κ : V → Prop, pw.l1 (.p r (0 + 5)) h1 κ = κ (.i .i64 now) := fun κ => l1_a g1 rfl
  have lk := barT_ok g6 a _ _ _ g5
  simp (disch := omega) only [ws, r4, r5, ln_w (sz := 4) hq rfl, lk]
  intro hbd'
  exact hk h1 hbd' hb1
end Go.Proofs.Ytfkbofbdonmpfaa.Wb
