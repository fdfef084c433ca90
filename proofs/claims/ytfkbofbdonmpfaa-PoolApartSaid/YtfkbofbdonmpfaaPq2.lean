/- Who has which address: the walks of what the pool's methods ask. -/
import Derived.Test.YtfkbofbdonmpfaaPq1
set_option linter.unusedSimpArgs false
set_option linter.unusedVariables false
set_option linter.unusedSectionVars false
set_option linter.unnecessarySimpa false
set_option maxRecDepth 100000
namespace Go.Proofs.Ytfkbofbdonmpfaa.Wb
open Go.Am

/-- The pool: no device is fixed, no address barred. -/
def PL (h : H) (r : Nat) (c : Option Nat) (first last now : Int) (es : List He) : Prop := ∃ lv mb k, h.mem.get r = some (.c [.i .u32 (numA first), .i .u32 (numA last), .ns, lv, .m mb, .i .i64 now] 144 true) ∧ VecE h lv 148 12 encH es ∧ vblk lv = c ∧ c ≠ some r ∧ h.mem.get mb = some (.mp [] k) ∧ mb ≠ r ∧ c ≠ some mb
theorem PL.keep {h h' : H} {r : Nat} {c : Option Nat} {first last now : Int} {es : List He} (ht : PL h r c first last now es) (hd : Bd h) (hk : But h h' none) : PL h' r c first last now es := by
  obtain ⟨lv, mb, k, h1, h2, h3, h4, h5, h6⟩ := ht
  exact ⟨lv, mb, k, hk.get (hd _ _ h1) (by simp) h1, h2.keep (h2.lt hd) hk (.inr rfl), h3, h4, hk.get (hd _ _ h5) (by simp) h5, h6⟩
theorem PL.lt {h : H} {r : Nat} {c : Option Nat} {first last now : Int} {es : List He} (ht : PL h r c first last now es) (hd : Bd h) : r < h.next ∧ ∀ q, c = some q → q < h.next := by
  obtain ⟨lv, mb, k, h1, h2, rfl, h3⟩ := ht
  exact ⟨hd _ _ h1, h2.lt hd⟩

def timeP (now t : Int) : Int := if now < t ∧ t ≤ 1099511627776 then t else now
theorem time_ok {n : Nat} (hn : 1 ≤ n) {r : Nat} {c : Option Nat} {first last now t : Int} {es : List He} {h : H} {K : V → H → Prop} (ht : PL h r c first last now es)
    (hk : ∀ h', Bd h' → But h h' (some r) → PL h' r c first last (timeP now t) es → K (.i .i64 (timeP now t)) h') : Ok Try.prog n 87 [.p r 0, .i .i64 t] h K := by
  obtain ⟨n, rfl⟩ := Nat.exists_eq_add_of_le' hn
  refine Ok.bd (K87 fun hbd => ?_)
  obtain ⟨lv, mb, k, h1, h2, h3, h4, h5, h6, h7⟩ := id ht
  have r5 : ∀ κ : V → Prop, pw.l1 (.p r (0 + 5)) h κ = κ (.i .i64 now) := fun κ => l1_a h1 rfl
  simp only [timeP] at hk
  simp (disch := omega) only [F87, ws, r5]
  by_cases hc : now < t
  · by_cases hc2 : t ≤ 1099511627776
    · simp (disch := omega) only [dec_t hc, dec_t hc2, ws, dec_t]
      refine s1_a h1 (by simp) rfl fun h' hg hb => ?_
      simp only [F87_4, nl_p, fa_p]
      rw [l1_a hg rfl]
      simp only [if_pos (And.intro hc hc2)] at hk
      exact fun hbd' => hk h' hbd' hb ⟨lv, mb, k, hg, h2.keep (h2.lt hbd) hb (.inl (by rw [h3]; exact h4)), h3, h4, hb.get (hbd _ _ h5) (by intro e; cases e; exact h6 rfl) h5, h6, h7⟩
    · simp (disch := omega) only [dec_t hc, dec_f hc2, ws, F87_4, r5]
      simp only [if_neg (show ¬ (now < t ∧ t ≤ 1099511627776) by omega)] at hk
      exact fun hbd' => hk h hbd' (But.refl _ _) ht
  · simp (disch := omega) only [dec_f hc, ws, F87_4, r5]
    simp only [if_neg (show ¬ (now < t ∧ t ≤ 1099511627776) by omega)] at hk
    exact fun hbd' => hk h hbd' (But.refl _ _) ht

def isA (a : Int) (e : He) : Bool := decide (e.l.a = a)
def isM (now m : Int) (e : He) : Bool := decide (e.l.m = m) && decide (now < e.l.un)

theorem cl142_ok {n : Nat} (hn : 1 ≤ n) {e : He} {q : Nat} {a : Int} {h : H} {t : TypeId} {K : V → H → Prop} (hq : h.mem.get q = some (.c (adV a) t true))
    (hk : ∀ h', Bd h' → But h h' none → K (.b (isA a e)) h') : Ok Try.prog n 142 [.a (encH e), .p q 0] h K := by
  obtain ⟨n, rfl⟩ := Nat.exists_eq_add_of_le' hn
  refine Ok.bd (K142 fun hbd => ?_)
  simp (disch := omega) only [F142]
  refine bx_a (cs := encH e) rfl fun b h1 hb1 hk1 _ _ => ?_
  have l6 : ∀ κ : V → Prop, pw.ln 4 (.p b (0 + 0 + 6)) h1 κ = κ (.a (adV e.l.a)) := fun κ => by rw [ln_a (sz := 4) hb1 (by simp [encH])]; rfl
  simp only [fa_p, l6]
  rw [ln_w (sz := 4) (hk1.get (hbd _ _ hq) (by simp) hq) rfl, eqa_ok]
  intro hb
  exact hk _ hb hk1

theorem of_ok' {n : Nat} (hn : 3 ≤ n) {r : Nat} {c : Option Nat} {first last now a : Int} {es : List He} {h : H} {K : V → H → Prop} (ht : PL h r c first last now es) (hl : es.length ≤ 10000)
    (hk : ∀ h', Bd h' → But h h' none → K (.i .i64 (fndP (isA a) es 0)) h') : Ok Try.prog n 91 [.p r 0, .a (adV a)] h K := by
  obtain ⟨n, rfl⟩ := Nat.exists_eq_add_of_le' hn
  refine K91 (n := n + 2) fun hbd => ?_
  simp (disch := omega) only [F91]
  refine bx_a (cs := adV a) rfl fun q h1 hq hb1 _ hl1 => ?_
  have hbd1 := hb1.2.2 hbd
  obtain ⟨lv, mb, k, g1, g2, g3⟩ := ht.keep hbd hb1
  rw [nl_p, fa_p, l1_a g1 rfl, cf_k]
  have hcl : ClP Try.prog (n + 1) h1 none (.f 142 [.p q 0]) encH es (isA a) := ClP.mk fun e he h4 K4 hbd4 hb4 hk4 => cl142_ok (by omega) (hb4.get (hbd1 _ _ hq) (by simp) hq) hk4
  exact h_index_ok (n := n + 2) (by omega) g2 hl hcl fun h' hbd' hb' => hk h' hbd' (hb1.trans hb')

theorem cl141_ok {n : Nat} (hn : 1 ≤ n) {e : He} {q p r : Nat} {m now : Int} {h : H} {t t2 t3 : TypeId} {x0 x1 x2 x3 x4 : V} {K : V → H → Prop} (hq : h.mem.get q = some (.c (maV m) t true)) (hp : h.mem.get p = some (.c [.p r 0] t2 true)) (hr : h.mem.get r = some (.c [x0, x1, x2, x3, x4, .i .i64 now] t3 true))
    (hk : ∀ h', Bd h' → But h h' none → K (.b (isM now m e)) h') : Ok Try.prog n 141 [.a (encH e), .p q 0, .p p 0] h K := by
  obtain ⟨n, rfl⟩ := Nat.exists_eq_add_of_le' hn
  refine Ok.bd (K141 fun hbd => ?_)
  simp (disch := omega) only [F141]
  refine bx_a (cs := encH e) rfl fun b h1 hb1 hk1 _ _ => ?_
  have l0 : ∀ κ : V → Prop, pw.ln 6 (.p b (0 + 0 + 0)) h1 κ = κ (.a (maV e.l.m)) := fun κ => by rw [ln_a (sz := 6) hb1 (by simp [encH])]; rfl
  have l10 : ∀ κ : V → Prop, pw.l1 (.p b (0 + 0 + 10)) h1 κ = κ (.i .i64 e.l.un) := fun κ => l1_a hb1 rfl
  have p0 : ∀ κ : V → Prop, pw.l1 (.p p 0) h1 κ = κ (.p r 0) := fun κ => l1_a (hk1.get (hbd _ _ hp) (by simp) hp) rfl
  have r5 : ∀ κ : V → Prop, pw.l1 (.p r (0 + 5)) h1 κ = κ (.i .i64 now) := fun κ => l1_a (hk1.get (hbd _ _ hr) (by simp) hr) rfl
  simp only [fa_p, l0]
  rw [ln_w (sz := 6) (hk1.get (hbd _ _ hq) (by simp) hq) rfl, eqm_ok]
  by_cases c1 : e.l.m = m
  · simp (disch := omega) only [ws, dec_t c1, p0, r5, l10]
    intro hb
    have := hk _ hb hk1
    rw [isM, decide_eq_true c1, Bool.true_and] at this
    exact this
  · simp (disch := omega) only [ws, dec_f c1]
    intro hb
    have := hk _ hb hk1
    rw [isM, decide_eq_false c1, Bool.false_and] at this
    exact this

theorem by_ok {n : Nat} (hn : 3 ≤ n) {r : Nat} {c : Option Nat} {first last now m : Int} {es : List He} {h : H} {K : V → H → Prop} (ht : PL h r c first last now es) (hl : es.length ≤ 10000)
    (hk : ∀ h', Bd h' → But h h' none → K (.i .i64 (fndP (isM now m) es 0)) h') : Ok Try.prog n 90 [.p r 0, .a (maV m)] h K := by
  obtain ⟨n, rfl⟩ := Nat.exists_eq_add_of_le' hn
  refine K90 (n := n + 2) fun hbd => ?_
  simp (disch := omega) only [F90]
  refine bx_a (cs := [.p r 0]) rfl fun p h0 hp hb0 _ hl0 => ?_
  refine bx_a (cs := maV m) rfl fun q h1 hq hb1 _ hl1 => ?_
  have hb01 := hb0.trans hb1
  have hbd1 := hb01.2.2 hbd
  obtain ⟨lv, mb, k, g1, g2, g3⟩ := ht.keep hbd hb01
  have hp1 := hb1.get hl0 (by simp) hp
  rw [l1_a hp1 (show [V.p r 0][0]? = some (.p r 0) from rfl), nl_p, fa_p, l1_a g1 rfl, cf_k]
  have hcl : ClP Try.prog (n + 1) h1 none (.f 141 [.p q 0, .p p 0]) encH es (isM now m) := ClP.mk fun e he h4 K4 hbd4 hb4 hk4 => cl141_ok (by omega) (hb4.get (hbd1 _ _ hq) (by simp) hq) (hb4.get (hbd1 _ _ hp1) (by simp) hp1) (hb4.get (hbd1 _ _ g1) (by simp) g1) hk4
  exact h_index_ok (n := n + 2) (by omega) g2 hl hcl fun h' hbd' hb' => hk h' hbd' (hb01.trans hb')

theorem live_no {n : Nat} (hn : 1 ≤ n) {i : Int} (hi : i < 0) {v : V} {h : H} {K : V → H → Prop} (hk : Bd h → K (.b false) h) : Ok Try.prog n 96 [v, .i .i64 i] h K := by
  obtain ⟨n, rfl⟩ := Nat.exists_eq_add_of_le' hn
  refine Ok.bd (K96 fun hbd => ?_)
  simp (disch := omega) only [F96, ws, dec_f]
  exact hk
theorem live_ok {n : Nat} (hn : 1 ≤ n) {r j : Nat} {c : Option Nat} {first last now : Int} {es : List He} (hj : j < es.length) {h : H} {K : V → H → Prop} (ht : PL h r c first last now es) (hk : Bd h → K (.b (decide (now < es[j].l.un))) h) : Ok Try.prog n 96 [.p r 0, .i .i64 (j : Nat)] h K := by
  obtain ⟨n, rfl⟩ := Nat.exists_eq_add_of_le' hn
  refine Ok.bd (K96 fun hbd => ?_)
  obtain ⟨lv, mb, k, g1, g2, g3⟩ := ht
  have r5 : ∀ κ : V → Prop, pw.l1 (.p r (0 + 5)) h κ = κ (.i .i64 now) := fun κ => l1_a g1 rfl
  have r3 : ∀ κ : V → Prop, pw.l1 (.p r (0 + 3)) h κ = κ lv := fun κ => l1_a g1 rfl
  simp (disch := omega) only [F96, ws, dec_t, r5, r3]
  refine vece_at encH_len g2 (i := j) rfl hj fun b ha => ?_
  rw [fa_p, fa_p, Nat.add_assoc, ha.get (x := .i .i64 es[j].l.un) rfl]
  simp (disch := omega) only [ws]
  exact hk

theorem nsl : ∀ κ : V → Prop, pw.ls xx 89 .ns κ = κ (.i .i64 0) := fun κ => by
  simp only [pw, ti_some _ tt89, lenP, oP]
theorem idx_ns {n : Nat} (hn : 1 ≤ n) {v : V} {h : H} {K : V → H → Prop} (hk : Bd h → K (.i .i64 (-1)) h) : Ok Try.prog n 143 [.ns, v] h K := by
  obtain ⟨n, rfl⟩ := Nat.exists_eq_add_of_le' hn
  refine Ok.bd (K143 fun hbd => ?_)
  simp only [F143, nsl]
  rw [show (100000 : Nat) = 99999 + 1 from rfl, S143_9]
  simp (disch := omega) only [ws, dec_f, F143_4]
  exact hk
theorem con_ns {n : Nat} (hn : 2 ≤ n) {v : V} {h : H} {K : V → H → Prop} (hk : Bd h → K (.b false) h) : Ok Try.prog n 116 [.ns, v] h K := by
  obtain ⟨n, rfl⟩ := Nat.exists_eq_add_of_le' hn
  refine Ok.bd (K116 (n := n + 1) fun hbd => ?_)
  simp only [F116, cf_k]
  refine idx_ns (by omega) fun _ => ?_
  simp (disch := omega) only [ws, dec_f]
  exact hk

/-- 'kept': nobody is. -/
theorem kept_ok {n : Nat} (hn : 2 ≤ n) {r : Nat} {c : Option Nat} {first last now m : Int} {es : List He} {h : H} {K : V → H → Prop} (ht : PL h r c first last now es) (hk : ∀ h', Bd h' → But h h' none → K (.t [.a [.i .u8 0, .i .u8 0, .i .u8 0, .i .u8 0], .b false]) h') : Ok Try.prog n 92 [.p r 0, .a (maV m)] h K := by
  obtain ⟨n, rfl⟩ := Nat.exists_eq_add_of_le' hn
  refine Ok.bd (K92 (n := n + 1) fun hbd => ?_)
  simp only [F92]
  refine bx_a (cs := maV m) rfl fun q h1 hq hb1 _ _ => ?_
  refine al_a tt28 fun z h2 hz hb2 hz1 hz2 => ?_
  have hb02 := hb1.trans hb2
  obtain ⟨lv, mb, k, g1, g2, g3⟩ := ht.keep hbd hb02
  rw [nl_p, fa_p, l1_a g1 rfl, cf_k]
  refine idx_ns (by omega) fun _ => ?_
  simp (disch := omega) only [ws, dec_t]
  refine bl_a (v := .a [.i .u8 0, .i .u8 0, .i .u8 0, .i .u8 0]) ?_ ?_
  · simp only [blW, ti, tt28, tt5, placesArr, cellsOfV, fillA]
  refine sn_w (w := .a [.i .u8 0, .i .u8 0, .i .u8 0, .i .u8 0]) (cs := [.i .u8 0, .i .u8 0, .i .u8 0, .i .u8 0]) hz rfl rfl rfl rfl fun h3 hg3 hb3 => ?_
  rw [ln_w (sz := 4) hg3 rfl]
  intro hbd'
  exact hk h3 hbd' (hb02.over hb3 (.inr fun r e => by cases e; exact Nat.le_trans hb1.1 hz1))

/-- 'has'. -/
def inP (first last a : Int) : Bool := decide (first ≤ a) && decide (a ≤ last)
theorem has_ok {n : Nat} (hn : 3 ≤ n) {r : Nat} {c : Option Nat} {first last now a : Int} (ha : 0 ≤ a ∧ a ≤ 255) {es : List He} {h : H} {K : V → H → Prop} (ht : PL h r c first last now es) (hk : ∀ h', Bd h' → But h h' none → K (.b (inP first last a)) h') : Ok Try.prog n 95 [.p r 0, .a (adV a)] h K := by
  obtain ⟨n, rfl⟩ := Nat.exists_eq_add_of_le' hn
  refine Ok.bd (K95 (n := n + 2) fun hbd => ?_)
  simp only [F95]
  refine bx_a (cs := adV a) rfl fun q h1 hq hb1 _ _ => ?_
  rw [ln_w (sz := 4) hq rfl, cf_k]
  refine num_ok (by omega) ha fun h2 hbd2 hb2 => ?_
  have hb02 := hb1.trans hb2
  obtain ⟨lv, mb, k, g1, g2, g3⟩ := ht.keep hbd hb02
  have r0 : ∀ κ : V → Prop, pw.l1 (.p r (0 + 0)) h2 κ = κ (.i .u32 (numA first)) := fun κ => l1_a g1 rfl
  have r1 : ∀ κ : V → Prop, pw.l1 (.p r (0 + 1)) h2 κ = κ (.i .u32 (numA last)) := fun κ => l1_a g1 rfl
  have r2 : ∀ κ : V → Prop, pw.l1 (.p r (0 + 2)) h2 κ = κ .ns := fun κ => l1_a g1 rfl
  have e1 : decide (numA first ≤ numA a) = decide (first ≤ a) := by rw [decide_eq_decide]; simp only [numA]; omega
  have e2 : decide (numA a ≤ numA last) = decide (a ≤ last) := by rw [decide_eq_decide]; simp only [numA]; omega
  simp only [inP] at hk
  simp (disch := omega) only [ws, r0, e1]
  by_cases c1 : first ≤ a
  · simp (disch := omega) only [ws, r1, r2, dec_t c1, e2]
    by_cases c2 : a ≤ last
    · simp (disch := omega) only [ws, r1, r2, dec_t c2]
      refine con_ns (by omega) fun hbd' => ?_
      simp (disch := omega) only [ws, Bool.not_false]
      intro _
      have := hk h2 hbd2 hb02
      rw [decide_eq_true c1, decide_eq_true c2] at this
      exact this
    · simp (disch := omega) only [ws, dec_f c2]
      intro _
      have := hk h2 hbd2 hb02
      rw [decide_eq_true c1, decide_eq_false c2] at this
      exact this
  · simp (disch := omega) only [ws, dec_f c1]
    intro _
    have := hk h2 hbd2 hb02
    rw [decide_eq_false c1, Bool.false_and] at this
    exact this

/-- 'barred': nothing is. -/
theorem barred_ok {n : Nat} (hn : 1 ≤ n) {r : Nat} {c : Option Nat} {first last now a : Int} (hnow : 0 ≤ now) {es : List He} {h : H} {K : V → H → Prop} (ht : PL h r c first last now es) (hk : ∀ h', Bd h' → But h h' none → K (.b false) h') : Ok Try.prog n 139 [.p r 0, .a (adV a)] h K := by
  obtain ⟨n, rfl⟩ := Nat.exists_eq_add_of_le' hn
  refine Ok.bd (K139 fun hbd => ?_)
  simp only [F139]
  refine bx_a (cs := adV a) rfl fun q h1 hq hb1 _ _ => ?_
  obtain ⟨lv, mb, k, g1, g2, g3, g4, g5, g6⟩ := ht.keep hbd hb1
  have r4 : ∀ κ : V → Prop, pw.l1 (.p r (0 + 4)) h1 κ = κ (.m mb) := fun κ => l1_a g1 rfl
  have r5 : ∀ κ : V → Prop, pw.l1 (.p r (0 + 5)) h1 κ = κ (.i .i64 now) := fun κ => l1_a g1 rfl
  have lk : ∀ κ : V → Prop, pw.lk xx 141 (.m mb) (.a (adV a)) false h1 κ = κ (.i .i64 0) := fun κ => by
    have e : rdKw xx 141 (.m mb) (.a (adV a)) false h1.mem.get = some (.i .i64 0) := by
      simp only [rdKw, ti, tt141, tt28, tt2, entries, g5, findKey, adV, eqF, eqK]; rfl
    simp only [pw, e, oP]
  simp (disch := omega) only [ws, r4, r5, ln_w (sz := 4) hq rfl, lk, dec_f]
  intro hbd'
  exact hk h1 hbd' hb1
end Go.Proofs.Ytfkbofbdonmpfaa.Wb
