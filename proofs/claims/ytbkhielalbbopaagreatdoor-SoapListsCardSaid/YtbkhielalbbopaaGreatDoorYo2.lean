/- Which port is whose: the walks of the small functions, of 'find' and 'count'. -/
import Derived.Test.YtbkhielalbbopaaGreatDoorYo1
set_option linter.unusedSimpArgs false
set_option linter.unusedVariables false
set_option linter.unusedSectionVars false
set_option linter.unnecessarySimpa false
set_option maxRecDepth 100000
namespace Go.Proofs.YtbkhielalbbopaaGreatDoor.Wb
open Go.Am

/-- The table: its block, its entries' block. -/
def PT (h : H) (r : Nat) (c : Option Nat) (low room now : Int) (es : List Mp) : Prop := ∃ lv, h.mem.get r = some (.c [.i .i64 low, .i .i64 room, .i .i64 now, lv] 86 true) ∧ VecE h lv 55 9 encM es ∧ vblk lv = c ∧ c ≠ some r
theorem PT.keep {h h' : H} {r : Nat} {c : Option Nat} {low room now : Int} {es : List Mp} (ht : PT h r c low room now es) (hd : Bd h) (hk : But h h' none) : PT h' r c low room now es := by
  obtain ⟨lv, h1, h2, h3⟩ := ht
  exact ⟨lv, hk.get (hd _ _ h1) (by simp) h1, h2.keep (h2.lt hd) hk (.inr rfl), h3⟩
theorem PT.lt {h : H} {r : Nat} {c : Option Nat} {low room now : Int} {es : List Mp} (ht : PT h r c low room now es) (hd : Bd h) : r < h.next ∧ ∀ q, c = some q → q < h.next := by
  obtain ⟨lv, h1, h2, rfl, h3⟩ := ht
  exact ⟨hd _ _ h1, h2.lt hd⟩

def lvE (e : Mp) (now : Int) : Bool := decide (e.kd = 4) || decide (now < e.un)
def fdE (p o now : Int) (e : Mp) : Bool := decide (e.p = p) && (decide (e.o = o) && lvE e now)

theorem live_ok {n : Nat} (hn : 1 ≤ n) {e : Mp} {now : Int} {h : H} {K : V → H → Prop} (hk : ∀ h', Bd h' → But h h' none → K (.b (lvE e now)) h') : Ok Tryz.prog n 71 [.a (encM e), .i .i64 now] h K := by
  obtain ⟨n, rfl⟩ := Nat.exists_eq_add_of_le' hn
  refine Ok.bd (K71 fun hbd => ?_)
  simp (disch := omega) only [F71]
  refine bx_a (cs := encM e) rfl fun b h1 hb1 hk1 _ _ => ?_
  simp only [fa_p, l1_a hb1 (show (encM e)[0 + 7]? = some (.i .i64 e.kd) from rfl), l1_a hb1 (show (encM e)[0 + 8]? = some (.i .i64 e.un) from rfl), eq_i, lt_i]
  by_cases hc : e.kd = 4
  · simp (disch := omega) only [ws, dec_t hc]
    intro hbd'
    have := hk h1 hbd' hk1
    rw [lvE, decide_eq_true hc, Bool.true_or] at this
    exact this
  · simp (disch := omega) only [ws, dec_f hc, fa_p, l1_a hb1 (show (encM e)[0 + 8]? = some (.i .i64 e.un) from rfl), lt_i]
    intro hbd'
    have := hk h1 hbd' hk1
    rw [lvE, decide_eq_false hc, Bool.false_or] at this
    exact this

/-- The protocols' least ports. -/
def leastP (p : Int) : Int := if p = 1 then 0 else 1
def okP (p : Int) : Bool := decide (p = 1) || (decide (p = 6) || decide (p = 17))
theorem least_ok {n : Nat} (hn : 1 ≤ n) {p : Int} {h : H} {K : V → H → Prop} (hk : Bd h → K (.t [.i .i64 (leastP p), .b (okP p)]) h) : Ok Tryz.prog n 46 [.i .i64 p] h K := by
  obtain ⟨n, rfl⟩ := Nat.exists_eq_add_of_le' hn
  refine Ok.bd (K46 fun hbd => ?_)
  simp only [leastP, okP] at hk
  by_cases h1 : p = 1
  · simp (disch := omega) only [F46, ws, dec_t h1]
    simp only [if_pos h1, decide_eq_true h1, Bool.true_or] at hk
    exact hk
  · simp only [if_neg h1, decide_eq_false h1, Bool.false_or] at hk
    by_cases h2 : p = 6
    · simp (disch := omega) only [F46, F46_4, ws, dec_f h1, dec_t h2]
      simp only [decide_eq_true h2, Bool.true_or] at hk
      exact hk
    · simp (disch := omega) only [F46, F46_4, ws, dec_f h1, dec_f h2]
      simp only [decide_eq_false h2, Bool.false_or] at hk
      exact hk

theorem within_ok {n : Nat} (hn : 1 ≤ n) {v a b : Int} {h : H} {K : V → H → Prop} (hk : Bd h → K (.b (decide (a ≤ v) && decide (v ≤ b))) h) : Ok Tryz.prog n 47 [.i .i64 v, .i .i64 a, .i .i64 b] h K := by
  obtain ⟨n, rfl⟩ := Nat.exists_eq_add_of_le' hn
  refine Ok.bd (K47 fun hbd => ?_)
  by_cases h1 : a ≤ v
  · simp (disch := omega) only [F47, ws, dec_t h1]
    rw [decide_eq_true h1, Bool.true_and] at hk
    exact hk
  · simp (disch := omega) only [F47, ws, dec_f h1]
    rw [decide_eq_false h1, Bool.false_and] at hk
    exact hk

theorem PT.time {h : H} {r : Nat} {c : Option Nat} {low room now : Int} {es : List Mp} (hbd : Bd h) {lv : V} (h1 : h.mem.get r = some (.c [.i .i64 low, .i .i64 room, .i .i64 now, lv] 86 true)) (h2 : VecE h lv 55 9 encM es) (h3 : vblk lv = c ∧ c ≠ some r) {h' : H} {now' : Int} (hg : h'.mem.get r = some (.c [.i .i64 low, .i .i64 room, .i .i64 now', lv] 86 true)) (hb : But h h' (some r)) : PT h' r c low room now' es :=
  ⟨lv, hg, h2.keep (h2.lt hbd) hb (.inl (by rw [h3.1]; exact h3.2)), h3⟩

def timeP (now t : Int) : Int := if now < t ∧ t ≤ 1099511627776 then t else now
theorem time_ok {n : Nat} (hn : 1 ≤ n) {r : Nat} {c : Option Nat} {low room now t : Int} {es : List Mp} {h : H} {K : V → H → Prop} (ht : PT h r c low room now es)
    (hk : ∀ h', Bd h' → But h h' (some r) → PT h' r c low room (timeP now t) es → K (.i .i64 (timeP now t)) h') : Ok Tryz.prog n 36 [.p r 0, .i .i64 t] h K := by
  obtain ⟨n, rfl⟩ := Nat.exists_eq_add_of_le' hn
  refine Ok.bd (K36 fun hbd => ?_)
  obtain ⟨lv, h1, h2, h3⟩ := ht
  simp only [timeP] at hk
  simp (disch := omega) only [F36, ws, wm, Nat.zero_add, h1, List.getElem?_cons_succ, List.getElem?_cons_zero]
  by_cases hc : now < t
  · by_cases hc2 : t ≤ 1099511627776
    · simp (disch := omega) only [dec_t hc, dec_t hc2, ws, dec_t]
      refine s1_a h1 (by simp) rfl fun h' hg hb => ?_
      simp only [F36_4, nl_p, fa_p, Nat.zero_add]
      rw [l1_a hg rfl]
      simp only [if_pos (And.intro hc hc2)] at hk
      exact fun hbd' => hk h' hbd' hb (PT.time hbd h1 h2 h3 hg hb)
    · simp (disch := omega) only [dec_t hc, dec_f hc2, ws, wm, F36_4, Nat.zero_add, h1, List.getElem?_cons_succ, List.getElem?_cons_zero]
      simp only [if_neg (show ¬ (now < t ∧ t ≤ 1099511627776) by omega)] at hk
      exact fun hbd' => hk h hbd' (But.refl _ _) ⟨lv, h1, h2, h3⟩
  · simp (disch := omega) only [dec_f hc, ws, wm, F36_4, Nat.zero_add, h1, List.getElem?_cons_succ, List.getElem?_cons_zero]
    simp only [if_neg (show ¬ (now < t ∧ t ≤ 1099511627776) by omega)] at hk
    exact fun hbd' => hk h hbd' (But.refl _ _) ⟨lv, h1, h2, h3⟩

theorem cl124_ok {n : Nat} (hn : 2 ≤ n) {e : Mp} {a b d : Nat} {p o now : Int} {h : H} {t1 t2 t3 : TypeId} {K : V → H → Prop} (ha : h.mem.get a = some (.c [.i .i64 p] t1 true)) (hb : h.mem.get b = some (.c [.i .i64 o] t2 true)) (hd : h.mem.get d = some (.c [.i .i64 now] t3 true))
    (hk : ∀ h', Bd h' → But h h' none → K (.b (fdE p o now e)) h') : Ok Tryz.prog n 73 [.a (encM e), .p a 0, .p b 0, .p d 0] h K := by
  obtain ⟨n, rfl⟩ := Nat.exists_eq_add_of_le' hn
  refine Ok.bd (K73 (n := n + 1) fun hbd => ?_)
  simp (disch := omega) only [F73]
  refine bx_a (cs := encM e) rfl fun q h1 hq hk1 _ _ => ?_
  have ha1 := hk1.get (hbd _ _ ha) (by simp) ha
  have hb1 := hk1.get (hbd _ _ hb) (by simp) hb
  have hd1 := hk1.get (hbd _ _ hd) (by simp) hd
  simp only [fa_p, l1_a hq (show (encM e)[0 + 0]? = some (.i .i64 e.p) from rfl), l1_a ha1 (show [V.i .i64 p][0]? = some (.i .i64 p) from rfl), eq_i]
  by_cases c1 : e.p = p
  · simp (disch := omega) only [ws, dec_t c1, l1_a hq (show (encM e)[0 + 1]? = some (.i .i64 e.o) from rfl), l1_a hb1 (show [V.i .i64 o][0]? = some (.i .i64 o) from rfl)]
    by_cases c2 : e.o = o
    · simp (disch := omega) only [ws, dec_t c2, ln_w (sz := 9) hq rfl, l1_a hd1 (show [V.i .i64 now][0]? = some (.i .i64 now) from rfl)]
      refine live_ok (by omega) fun h' hbd' hb' => ?_
      intro _
      have := hk h' hbd' (hk1.trans hb')
      rw [fdE, decide_eq_true c1, decide_eq_true c2, Bool.true_and, Bool.true_and] at this
      exact this
    · simp (disch := omega) only [ws, dec_f c2]
      intro hbd'
      have := hk h1 hbd' hk1
      rw [fdE, decide_eq_true c1, decide_eq_false c2, Bool.true_and, Bool.false_and] at this
      exact this
  · simp (disch := omega) only [ws, dec_f c1]
    intro hbd'
    have := hk h1 hbd' hk1
    rw [fdE, decide_eq_false c1, Bool.false_and] at this
    exact this

theorem find_ok {n : Nat} (hn : 4 ≤ n) {r : Nat} {c : Option Nat} {low room tn p o now : Int} {es : List Mp} {h : H} {K : V → H → Prop} (ht : PT h r c low room tn es) (hl : es.length ≤ 10000)
    (hk : ∀ h', Bd h' → But h h' none → K (.i .i64 (fndP (fdE p o now) es 0)) h') : Ok Tryz.prog n 37 [.p r 0, .i .i64 p, .i .i64 o, .i .i64 now] h K := by
  obtain ⟨n, rfl⟩ := Nat.exists_eq_add_of_le' hn
  refine K37 (n := n + 3) fun hbd => ?_
  simp (disch := omega) only [F37]
  refine bx_a (cs := [.i .i64 p]) rfl fun q1 h1 hq1 hb1 _ hl1 => ?_
  refine bx_a (cs := [.i .i64 o]) rfl fun q2 h2 hq2 hb2 _ hl2 => ?_
  refine bx_a (cs := [.i .i64 now]) rfl fun q3 h3 hq3 hb3 _ hl3 => ?_
  have hb13 := hb2.trans hb3
  have hb03 := hb1.trans hb13
  obtain ⟨lv, g1, g2, g3⟩ := ht.keep hbd hb03
  have e1 := hb13.get hl1 (by simp) hq1
  have e2 := hb3.get hl2 (by simp) hq2
  rw [nl_p, fa_p, l1_a g1 rfl, cf_k]
  have hbd3 := hb03.2.2 hbd
  have hcl : ClP Tryz.prog (n + 2) h3 none (.f 73 [.p q1 0, .p q2 0, .p q3 0]) encM es (fdE p o now) := ClP.mk fun e he h4 K4 hbd4 hb4 hk4 => cl124_ok (by omega) (hb4.get (hbd3 _ _ e1) (by simp) e1) (hb4.get (hbd3 _ _ e2) (by simp) e2) (hb4.get (hbd3 _ _ hq3) (by simp) hq3) hk4
  exact m_index_ok (n := n + 3) (by omega) g2 hl hcl fun h' hbd' hb' => hk h' hbd' (hb03.trans hb')

def cntL (now : Int) (es : List Mp) : Nat := (es.filter fun e => lvE e now).length
theorem count_ok {n : Nat} (hn : 2 ≤ n) {r : Nat} {c : Option Nat} {low room tn now : Int} {es : List Mp} {h : H} {K : V → H → Prop} (ht : PT h r c low room tn es) (hl : es.length ≤ 10000)
    (hk : ∀ h', Bd h' → But h h' none → K (.i .i64 (cntL now es)) h') : Ok Tryz.prog n 35 [.p r 0, .i .i64 now] h K := by
  obtain ⟨n, rfl⟩ := Nat.exists_eq_add_of_le' hn
  refine K35 (n := n + 1) fun hbd => ?_
  obtain ⟨lv, h1, h2, h3⟩ := ht
  simp (disch := omega) only [F35, ws, wm, Nat.zero_add, h1, List.getElem?_cons_succ, List.getElem?_cons_zero, vece_len tt84 rfl h2]
  have main : ∀ (fuel k : Nat) (h' : H), es.length < fuel + k → k ≤ es.length → Bd h' → But h h' none → F35_15 pw xx (Ok Tryz.prog (n + 1)) K fuel (.i .i64 now) (.i .i64 (cntL now (es.take k))) lv (.i .i64 (es.length : Nat)) (.i .i64 (k : Nat)) h' := by
    intro fuel
    induction fuel with
    | zero => intro k h' a1 a2; omega
    | succ fuel ih =>
      intro k h' a1 a2 hbd' hb
      rw [S35_15]
      by_cases hlt : k < es.length
      · simp (disch := omega) only [ws, dec_t, F35_22]
        refine vece_at encM_len (h2.keep (h2.lt hbd) hb (.inr rfl)) rfl hlt fun b ha => ?_
        rw [ha.all]
        refine al_a tt55 fun q h4 hq hb4 hq1 hq2 => ?_
        refine sn_w (w := .a (encM es[k])) (cs := encM es[k]) hq rfl (encM_len _) rfl (encM_one _) fun h5 hq5 hb5 => ?_
        rw [ln_w (sz := 9) hq5 rfl]
        have hb05 : But h h5 none := (hb.trans hb4).over hb5 (.inr fun r e => by cases e; exact Nat.le_trans hb.1 hq1)
        refine live_ok (by omega) fun h6 hbd6 hb6 => ?_
        have e1 : es.take (k + 1) = es.take k ++ [es[k]] := List.take_succ_eq_append_getElem hlt
        have hcl : cntL now (es.take k) ≤ k := by
          refine Nat.le_trans (List.length_filter_le _ _) ?_
          rw [List.length_take]; omega
        have := ih (k + 1) h6 (by omega) (by omega) hbd6 (hb05.trans hb6)
        have e2 : cntL now (es.take (k + 1)) = cntL now (es.take k) + (if lvE es[k] now = true then 1 else 0) := by
          rw [cntL, e1, List.filter_append, List.length_append]
          by_cases hh : lvE es[k] now = true
          · simp [hh, cntL]
          · simp [hh, cntL]
        rw [e2] at this
        cases hh : lvE es[k] now with
        | true =>
          simp (disch := omega) only [ws, F35_28]
          rw [hh, if_pos rfl] at this
          exact this
        | false =>
          simp (disch := omega) only [ws, F35_28]
          rw [hh, if_neg (by simp)] at this
          exact this
      · simp (disch := omega) only [ws, dec_f, F35_5]
        rw [List.take_of_length_le (by omega)]
        exact hk h' hbd' hb
  exact main 100000 0 h (by omega) (by omega) hbd (But.refl _ _)
end Go.Proofs.YtbkhielalbbopaaGreatDoor.Wb
