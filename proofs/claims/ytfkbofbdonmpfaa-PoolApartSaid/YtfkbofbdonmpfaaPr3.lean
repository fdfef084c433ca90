/- Who has which address, with fixed devices and barred addresses: 'kept', 'has', 'barred'. -/
import Derived.Test.YtfkbofbdonmpfaaPr2
import Derived.Test.YtfkbofbdonmpfaaPq8
set_option linter.unusedSimpArgs false
set_option linter.unusedVariables false
set_option linter.unusedSectionVars false
set_option linter.unnecessarySimpa false
set_option maxRecDepth 100000
namespace Go.Proofs.Ytfkbofbdonmpfaa.Wb
open Go.Am

def lM (m : Int) (e : Le) : Bool := decide (e.m = m)
def lA (a : Int) (e : Le) : Bool := decide (e.a = a)
theorem cl144_ok {n : Nat} (hn : 1 ≤ n) {e : Le} {q : Nat} {m : Int} {h : H} {t : TypeId} {K : V → H → Prop} (hq : h.mem.get q = some (.c (maV m) t true))
    (hk : ∀ h', Bd h' → But h h' none → K (.b (lM m e)) h') : Ok Try.prog n 144 [.a (encL e), .p q 0] h K := by
  obtain ⟨n, rfl⟩ := Nat.exists_eq_add_of_le' hn
  refine Ok.bd (K144 fun hbd => ?_)
  simp (disch := omega) only [F144]
  refine bx_a (cs := encL e) rfl fun b h1 hb1 hk1 _ _ => ?_
  have l0 : ∀ κ : V → Prop, pw.ln 6 (.p b (0 + 0)) h1 κ = κ (.a (maV e.m)) := fun κ => by rw [ln_a (sz := 6) hb1 (by simp [encL])]; rfl
  simp only [fa_p, l0]
  rw [ln_w (sz := 6) (hk1.get (hbd _ _ hq) (by simp) hq) rfl, eqm_ok]
  intro hb
  exact hk _ hb hk1
theorem cl147_ok {n : Nat} (hn : 1 ≤ n) {e : Le} {q : Nat} {a : Int} {h : H} {t : TypeId} {K : V → H → Prop} (hq : h.mem.get q = some (.c (adV a) t true))
    (hk : ∀ h', Bd h' → But h h' none → K (.b (lA a e)) h') : Ok Try.prog n 147 [.a (encL e), .p q 0] h K := by
  obtain ⟨n, rfl⟩ := Nat.exists_eq_add_of_le' hn
  refine Ok.bd (K147 fun hbd => ?_)
  simp (disch := omega) only [F147]
  refine bx_a (cs := encL e) rfl fun b h1 hb1 hk1 _ _ => ?_
  have l0 : ∀ κ : V → Prop, pw.ln 4 (.p b (0 + 6)) h1 κ = κ (.a (adV e.a)) := fun κ => by rw [ln_a (sz := 4) hb1 (by simp [encL])]; rfl
  simp only [fa_p, l0]
  rw [ln_w (sz := 4) (hk1.get (hbd _ _ hq) (by simp) hq) rfl, eqa_ok]
  intro hb
  exact hk _ hb hk1

theorem keptG_ok {n : Nat} (hn : 3 ≤ n) {r : Nat} {c : Option Nat} {fx : List Le} {ms : List (V × V × Nat)} {first last now m : Int} (hfx : fx.length ≤ 10000) {es : List He} {h : H} {K : V → H → Prop} (ht : PG h r c fx ms first last now es)
    (k1 : ∀ h', Bd h' → But h h' none → (∀ e ∈ fx, e.m ≠ m) → K (.t [.a zeV, .b false]) h')
    (k2 : ∀ h' e, Bd h' → But h h' none → e ∈ fx → e.m = m → K (.t [.a (adV e.a), .b true]) h') : Ok Try.prog n 92 [.p r 0, .a (maV m)] h K := by
  obtain ⟨n, rfl⟩ := Nat.exists_eq_add_of_le' hn
  refine Ok.bd (K92 (n := n + 2) fun hbd => ?_)
  simp only [F92]
  refine bx_a (cs := maV m) rfl fun q h1 hq hb1 _ hq2 => ?_
  refine al_a tt28 fun z h2 hz hb2 hz1 hz2 => ?_
  have hb02 := hb1.trans hb2
  have hbd2 := hb02.2.2 hbd
  obtain ⟨lv, fv, mb, k, g1, g2, g3, g4, g5, g6, g7, g8⟩ := ht.keep hbd hb02
  have hq' := hb2.get hq2 (by simp) hq
  rw [nl_p, fa_p, l1_a g1 rfl, cf_k]
  have hcl : ClP Try.prog (n + 1) h2 none (.f 144 [.p q 0]) encL fx (lM m) := ClP.mk fun e he h4 K4 hbd4 hb4 hk4 => cl144_ok (by omega) (hb4.get (hbd2 _ _ hq') (by simp) hq') hk4
  refine l_index_ok (n := n + 2) (by omega) g7 hfx hcl fun h3 hbd3 hb3 => ?_
  have hz3 := hb3.get hz2 (by simp) hz
  have fr : ∀ h4, But h3 h4 (some z) → But h h4 none := fun h4 hb4 => (hb02.trans hb3).over hb4 (.inr fun y e => by cases e; exact Nat.le_trans hb1.1 hz1)
  by_cases hneg : fndP (lM m) fx 0 < 0
  · simp (disch := omega) only [ws, dec_t hneg]
    refine bl_a (v := .a zeV) ?_ ?_
    · simp only [blW, ti, tt28, tt5, placesArr, cellsOfV, fillA]; rfl
    refine sn_w (w := .a zeV) (cs := zeV) hz3 rfl rfl rfl rfl fun h4 hg4 hb4 => ?_
    rw [ln_w (sz := 4) hg4 rfl]
    intro hbd'
    exact k1 h4 hbd' (fr h4 hb4) fun e he => by
      have := fndP_neg hneg e he
      simpa [lM] using this
  · obtain ⟨j, hj, e1, e2, _⟩ := fndP_some (show 0 ≤ fndP (lM m) fx 0 by omega)
    rw [Nat.zero_add] at e1
    have r2 : ∀ κ : V → Prop, pw.l1 (.p r (0 + 2)) h3 κ = κ fv := fun κ => l1_a (hb3.get (hbd2 _ _ g1) (by simp) g1) rfl
    simp (disch := omega) only [ws, e1, dec_f, F92_13, r2]
    refine vece_at encL_len (g7.keep (g7.lt hbd2) hb3 (.inr rfl)) (i := j) rfl hj fun b ha => ?_
    rw [fa_p, ha.getn (f := 6) (n := 4) (by omega)]
    refine sn_w (w := .a (adV fx[j].a)) (cs := adV fx[j].a) hz3 rfl rfl rfl rfl fun h4 hg4 hb4 => ?_
    rw [ln_w (sz := 4) hg4 rfl]
    intro hbd'
    exact k2 h4 fx[j] hbd' (fr h4 hb4) (List.getElem_mem hj) (by simpa [lM] using e2)

theorem hasG_ok {n : Nat} (hn : 4 ≤ n) {r : Nat} {c : Option Nat} {fx : List Le} {ms : List (V × V × Nat)} {first last now a : Int} (hfx : fx.length ≤ 10000) (ha : 0 ≤ a ∧ a ≤ 255) {es : List He} {h : H} {K : V → H → Prop} (ht : PG h r c fx ms first last now es) (hk : ∀ h' b, Bd h' → But h h' none → (b = true ↔ (first ≤ a ∧ a ≤ last ∧ ∀ e ∈ fx, e.a ≠ a)) → K (.b b) h') : Ok Try.prog n 95 [.p r 0, .a (adV a)] h K := by
  obtain ⟨n, rfl⟩ := Nat.exists_eq_add_of_le' hn
  refine Ok.bd (K95 (n := n + 3) fun hbd => ?_)
  simp only [F95]
  refine bx_a (cs := adV a) rfl fun q h1 hq hb1 _ hq2 => ?_
  rw [ln_w (sz := 4) hq rfl, cf_k]
  refine num_ok (by omega) ha fun h2 hbd2 hb2 => ?_
  have hb02 := hb1.trans hb2
  obtain ⟨lv, fv, mb, k, g1, g2, g3, g4, g5, g6, g7, g8⟩ := ht.keep hbd hb02
  have r0 : ∀ κ : V → Prop, pw.l1 (.p r (0 + 0)) h2 κ = κ (.i .u32 (numA first)) := fun κ => l1_a g1 rfl
  have r1 : ∀ κ : V → Prop, pw.l1 (.p r (0 + 1)) h2 κ = κ (.i .u32 (numA last)) := fun κ => l1_a g1 rfl
  have r2 : ∀ κ : V → Prop, pw.l1 (.p r (0 + 2)) h2 κ = κ fv := fun κ => l1_a g1 rfl
  have e1 : decide (numA first ≤ numA a) = decide (first ≤ a) := by rw [decide_eq_decide]; simp only [numA]; omega
  have e2 : decide (numA a ≤ numA last) = decide (a ≤ last) := by rw [decide_eq_decide]; simp only [numA]; omega
  simp (disch := omega) only [ws, r0, e1]
  by_cases c1 : first ≤ a
  · simp (disch := omega) only [ws, r1, r2, dec_t c1, e2]
    by_cases c2 : a ≤ last
    · simp (disch := omega) only [ws, r1, r2, dec_t c2]
      have hq' := hb2.get hq2 (by simp) hq
      refine K116 (n := n + 2) fun _ => ?_
      simp only [F116, cf_k]
      have hcl : ClP Try.prog (n + 1) h2 none (.f 147 [.p q 0]) encL fx (lA a) := ClP.mk fun e he h4 K4 hbd4 hb4 hk4 => cl147_ok (by omega) (hb4.get (hbd2 _ _ hq') (by simp) hq') hk4
      refine l_index_ok (n := n + 2) (by omega) g7 hfx hcl fun h3 hbd3 hb3 => ?_
      by_cases hneg : fndP (lA a) fx 0 < 0
      · simp (disch := omega) only [ws, dec_f, Bool.not_false]
        intro hb
        refine hk h3 true hb (hb02.trans hb3) ⟨fun _ => ⟨c1, c2, fun e he => ?_⟩, fun _ => rfl⟩
        have := fndP_neg hneg e he
        simpa [lA] using this
      · simp (disch := omega) only [ws, dec_t, Bool.not_true]
        intro hb
        obtain ⟨j, hj, _, f2, _⟩ := fndP_some (show 0 ≤ fndP (lA a) fx 0 by omega)
        refine hk h3 false hb (hb02.trans hb3) ⟨(fun h => by cases h), fun h => absurd (by simpa [lA] using f2) (h.2.2 fx[j] (List.getElem_mem hj))⟩
    · simp (disch := omega) only [ws, dec_f c2]
      intro hb
      exact hk h2 false hb hb02 ⟨(fun h => by cases h), fun h => absurd h.2.1 c2⟩
  · simp (disch := omega) only [ws, dec_f c1]
    intro hb
    exact hk h2 false hb hb02 ⟨(fun h => by cases h), fun h => absurd h.1 c1⟩
end Go.Proofs.Ytfkbofbdonmpfaa.Wb
