/- Which port is whose: the walks of 'add', of what compares, of 'port'. -/
import Derived.Test.YtbkhielalbbopaaGreatDoorYo2
set_option linter.unusedSimpArgs false
set_option linter.unusedVariables false
set_option linter.unusedSectionVars false
set_option linter.unnecessarySimpa false
set_option maxRecDepth 100000
namespace Go.Proofs.YtbkhielalbbopaaGreatDoor.Wb
open Go.Am

theorem push_ok {r q : Nat} {c : Option Nat} {low room now : Int} {es : List Mp} {e : Mp} {h : H} {κ : H → Prop} (ht : PT h r c low room now es) (hbd : Bd h) (hq : h.mem.get q = some (.c (encM e) 55 true)) (hl : es.length ≤ 10000)
    (K : ∀ h' c', PT h' r c' low room now (es ++ [e]) → (c' = c ∨ ∃ z, c' = some z ∧ h.next ≤ z) → But2 h h' r c → κ h') :
    pw.l1 (.p r (0 + 3)) h fun v40 => pw.ln 9 (.p q 0) h fun v41 => pw.bs xx 84 1 [(0, v41)] h fun v42 h42 => pw.ap xx 84 84 v40 v42 h42 fun v43 h43 => pw.s1 (.p r (0 + 3)) v43 h43 fun h46 => κ h46 := by
  obtain ⟨lv, h1, h2, rfl, h3⟩ := ht
  have hr := hbd _ _ h1
  have hlv := h2.lt hbd
  rw [l1_a h1 rfl, ln_w (sz := 9) hq rfl]
  refine bs_a (cs := encM e) (l := [(0 * 9, .a (encM e))]) tt84 rfl tt55 (by decide) rfl rfl fun q2 h4 hg4 hb4 hq1 hq2 => ?_
  have g1 := hb4.get hr (by simp) h1
  have g2 := h2.keep hlv hb4 (.inr rfl)
  refine ap_vec (cs := encM e) (m := 1) tt84 rfl tt55 tt84 (by intro k e; cases e) rfl ?_ g2 rfl (encM_one _) (by unfold most; simp; omega) (by unfold most; omega) fun v5 h5 hv5 hb5 hq5 => ?_
  · simp only [fcells, hg4]
    rfl
  replace hv5 : VecE h5 v5 55 9 encM (es ++ [e]) := by
    unfold VecE
    rw [encs_app, encs_one, List.length_append]
    exact hv5
  have g5 := hb5.get (Nat.lt_of_lt_of_le hr hb4.1) (fun e => h3 e.symm) g1
  have hne : vblk v5 ≠ some r := by
    rcases hq5 with h | ⟨h, _⟩
    · rw [h]; exact h3
    · rw [h]; intro e; cases e; have := hb4.1; omega
  refine s1_a (o := 0 + 3) g5 (by simp) ?_ fun h6 hg6 hb6 => ?_
  · rcases hv5 with ⟨_, ⟨rfl, _⟩ | ⟨_, _, _, _, rfl, _⟩⟩ <;> rfl
  have hlt5 : ∀ q, vblk v5 = some q → q < h5.next := by
    intro z hz
    rcases hq5 with h | ⟨h, h'⟩
    · rw [h] at hz
      exact Nat.lt_of_lt_of_le (hlv z hz) (Nat.le_trans hb4.1 hb5.1)
    · rw [h] at hz; cases hz; exact h'
  refine K h6 (vblk v5) ⟨v5, hg6, hv5.keep hlt5 hb6 (.inl hne), rfl, hne⟩ ?_ (((hb4.two (.inl rfl)).trans (hb5.two (.inr (.inr rfl)))).trans (hb6.two (.inr (.inl rfl))))
  rcases hq5 with h | ⟨h, _⟩
  · exact .inl h
  · exact .inr ⟨h4.next, h, hb4.1⟩

def sameE (m e : Mp) : Bool := decide (e.p = m.p) && decide (e.o = m.o)
theorem cl122_ok {n : Nat} (hn : 1 ≤ n) {e m : Mp} {q : Nat} {h : H} {t1 : TypeId} {K : V → H → Prop} (ha : h.mem.get q = some (.c (encM m) t1 true))
    (hk : ∀ h', Bd h' → But h h' none → K (.b (sameE m e)) h') : Ok Tryz.prog n 87 [.a (encM e), .p q 0] h K := by
  obtain ⟨n, rfl⟩ := Nat.exists_eq_add_of_le' hn
  refine Ok.bd (K87 fun hbd => ?_)
  simp (disch := omega) only [F87]
  refine bx_a (cs := encM e) rfl fun b h1 hb1 hk1 _ _ => ?_
  have ha1 := hk1.get (hbd _ _ ha) (by simp) ha
  simp only [fa_p, l1_a hb1 (show (encM e)[0 + 0]? = some (.i .i64 e.p) from rfl), l1_a ha1 (show (encM m)[0 + 0]? = some (.i .i64 m.p) from rfl), eq_i]
  by_cases c1 : e.p = m.p
  · simp (disch := omega) only [ws, dec_t c1, l1_a hb1 (show (encM e)[0 + 1]? = some (.i .i64 e.o) from rfl), l1_a ha1 (show (encM m)[0 + 1]? = some (.i .i64 m.o) from rfl)]
    intro hbd'
    have := hk h1 hbd' hk1
    rw [sameE, decide_eq_true c1, Bool.true_and] at this
    exact this
  · simp (disch := omega) only [ws, dec_f c1]
    intro hbd'
    have := hk h1 hbd' hk1
    rw [sameE, decide_eq_false c1, Bool.false_and] at this
    exact this

theorem vecE_one {h : H} {v : V} {el sz : Nat} {α : Type} {enc : α → List V} {es : List α} (hv : VecE h v el sz enc es) : oneV v = true := by
  rcases hv with ⟨_, ⟨rfl, _⟩ | ⟨_, _, _, _, rfl, _⟩⟩ <;> rfl

theorem add_ok {n : Nat} (hn : 5 ≤ n) {r : Nat} {c : Option Nat} {low room now : Int} {es : List Mp} {m : Mp} {h : H} {K : V → H → Prop} (ht : PT h r c low room now es) (hl : es.length ≤ 10000)
    (hk : ∀ h' c', Bd h' → PT h' r c' low room now (es.filter (fun e => !sameE m e) ++ [m]) → (c' = c ∨ ∃ z, c' = some z ∧ h.next ≤ z) → But2 h h' r c → K (.t []) h') : Ok Tryz.prog n 50 [.p r 0, .a (encM m)] h K := by
  obtain ⟨n, rfl⟩ := Nat.exists_eq_add_of_le' hn
  refine Ok.bd (K50 (n := n + 4) fun hbd => ?_)
  simp (disch := omega) only [F50]
  refine bx_a (cs := encM m) rfl fun q h1 hq hb1 hq1 hq2 => ?_
  have hbd1 := hb1.2.2 hbd
  have ht1 := ht.keep hbd hb1
  obtain ⟨lv, g1, g2, rfl, g4⟩ := ht1
  obtain ⟨hr, hlt⟩ := ht.lt hbd
  rw [nl_p, fa_p, l1_a g1 rfl, cf_k]
  have hqv : vblk lv ≠ some q := fun e => by have := hlt q e; omega
  have mkc : ∀ k, 1 ≤ k → ClP Tryz.prog k h1 (vblk lv) (.f 87 [.p q 0]) encM es (sameE m) := fun k hk1 => ClP.mk fun e he h4 K4 hbd4 hb4 hk4 => cl122_ok hk1 (hb4.get hq2 (fun e => hqv e.symm) hq) hk4
  refine m_delete_ok (n := n + 4) (by omega) g2 hl (fun e _ => encM_one e) (mkc _ (by omega)) (mkc _ (by omega)) fun v2 h2 hbd2 hb2 hv2 hvv2 => ?_
  have g1' := hb2.get (Nat.lt_of_lt_of_le hr hb1.1) (fun e => g4 e.symm) g1
  have hq' := hb2.get hq2 (fun e => hqv e.symm) hq
  simp only [nl_p, fa_p]
  refine s1_a (o := 0 + 3) g1' (by simp) (vecE_one hvv2) fun h3 hg3 hb3 => ?_
  have hne2 : vblk v2 ≠ some r := by rw [hv2]; exact g4
  have ht3 : PT h3 r (vblk lv) low room now (es.filter fun e => !sameE m e) := ⟨v2, hg3, hvv2.keep (hvv2.lt hbd2) hb3 (.inl hne2), hv2, g4⟩
  have hbd3 := hb3.2.2 hbd2
  have hq'' := hb3.get (hbd2 _ _ hq') (by intro e; cases e; omega) hq'
  refine push_ok ht3 hbd3 hq'' (Nat.le_trans (List.length_filter_le _ _) hl) fun h4 c' ht4 hc4 hb4 => ?_
  intro hbd4
  have hb03 : But2 h h3 r (vblk lv) := ((hb1.two (.inl rfl)).trans (hb2.two (.inr (.inr rfl)))).trans (hb3.two (.inr (.inl rfl)))
  refine hk h4 c' hbd4 ht4 ?_ (hb03.trans hb4)
  rcases hc4 with h | ⟨z, h, hz⟩
  · exact .inl h
  · exact .inr ⟨z, h, Nat.le_trans hb03.1 hz⟩

/-! ### What compares -/
def rankZ (k : Int) : Int := if k = 4 then 0 else k
theorem rank_ok {n : Nat} (hn : 1 ≤ n) {k : Int} {h : H} {K : V → H → Prop} (hk : Bd h → K (.i .i64 (rankZ k)) h) : Ok Tryz.prog n 86 [.i .i64 k] h K := by
  obtain ⟨n, rfl⟩ := Nat.exists_eq_add_of_le' hn
  refine Ok.bd (K86 fun hbd => ?_)
  simp only [rankZ] at hk
  by_cases h1 : k = 4
  · simp (disch := omega) only [F86, ws, dec_t h1]
    rw [if_pos h1] at hk
    exact hk
  · simp (disch := omega) only [F86, F86_3, ws, dec_f h1]
    rw [if_neg h1] at hk
    exact hk
theorem nan_ok {n : Nat} (hn : 1 ≤ n) {k : Int} {h : H} {K : V → H → Prop} (hk : Bd h → K (.b false) h) : Ok Tryz.prog n 120 [.i .i64 k] h K := by
  obtain ⟨n, rfl⟩ := Nat.exists_eq_add_of_le' hn
  refine Ok.bd (K120 fun hbd => ?_)
  simp (disch := omega) only [F120, ws, dec_t (rfl : k = k)]
  exact hk
def cmpZ (a b : Int) : Int := if a < b then -1 else if b < a then 1 else 0
theorem cmp_ok {n : Nat} (hn : 2 ≤ n) {a b : Int} {h : H} {K : V → H → Prop} (hk : Bd h → K (.i .i64 (cmpZ a b)) h) : Ok Tryz.prog n 85 [.i .i64 a, .i .i64 b] h K := by
  obtain ⟨n, rfl⟩ := Nat.exists_eq_add_of_le' hn
  refine Ok.bd (K85 (n := n + 1) fun hbd => ?_)
  simp (disch := omega) only [F85, cf_k]
  refine nan_ok (by omega) fun _ => ?_
  refine nan_ok (by omega) fun _ => ?_
  simp only [cmpZ] at hk
  by_cases h1 : a < b
  · simp (disch := omega) only [F85_10, F85_14, ws, dec_t h1]
    rw [if_pos h1] at hk
    exact hk
  · rw [if_neg h1] at hk
    by_cases h2 : b < a
    · simp (disch := omega) only [F85_10, F85_14, F85_17, ws, dec_f h1, dec_t h2]
      rw [if_pos h2] at hk
      exact hk
    · simp (disch := omega) only [F85_10, F85_14, F85_17, F85_20, ws, dec_f h1, dec_f h2]
      rw [if_neg h2] at hk
      exact hk
def orZ (a b : Int) : Int := if a = 0 then b else a
theorem or_ok {n : Nat} (hn : 1 ≤ n) {a b : Int} {q : Nat} {t : TypeId} {h : H} {K : V → H → Prop} (hq : h.mem.get q = some (.c [.i .i64 a, .i .i64 b] t true)) (hk : Bd h → K (.i .i64 (orZ a b)) h) : Ok Tryz.prog n 84 [.sl q 0 2 2 false] h K := by
  obtain ⟨n, rfl⟩ := Nat.exists_eq_add_of_le' hn
  refine Ok.bd (K84 fun hbd => ?_)
  simp (disch := omega) only [F84, ls_sl tt169 rfl]
  simp only [orZ] at hk
  rw [show (100000 : Nat) = 99999 + 1 from rfl, S84_11]
  simp (disch := omega) only [ws, dec_t, F84_17, l1_a hq (show [V.i .i64 a, .i .i64 b][0 + Int.toNat 0 * 1]? = some (.i .i64 a) from rfl)]
  by_cases h1 : a = 0
  · simp (disch := omega) only [dec_t h1, ws, F84_22]
    rw [if_pos h1] at hk
    rw [show (99999 : Nat) = 99998 + 1 from rfl, S84_11]
    simp (disch := omega) only [ws, dec_t, F84_17, l1_a hq (show [V.i .i64 a, .i .i64 b][0 + Int.toNat (0 + 1) * 1]? = some (.i .i64 b) from rfl)]
    by_cases h2 : b = 0
    · simp (disch := omega) only [dec_t h2, ws, F84_22]
      rw [show (99998 : Nat) = 99997 + 1 from rfl, S84_11]
      simp (disch := omega) only [ws, dec_f, F84_4]
      rw [h2] at hk
      exact hk
    · simp (disch := omega) only [dec_f h2, ws]
      exact hk
  · simp (disch := omega) only [dec_f h1, ws]
    rw [if_neg h1] at hk
    exact hk
theorem nea_ok {a b c d a' b' c' d' : Int} {κ : V → Prop} : pw.ne xx 41 (.a [.i .u8 a, .i .u8 b, .i .u8 c, .i .u8 d]) (.a [.i .u8 a', .i .u8 b', .i .u8 c', .i .u8 d']) κ = κ (.b (!(decide (a = a') && (decide (b = b') && (decide (c = c') && (decide (d = d') && true)))))) := by
  simp only [pw, bin, ti, tt41, eqOp, eqF, eqK, if_true, oP]
theorem nead {x y : Ad} {κ : V → Prop} : pw.ne xx 41 (.a (encA x)) (.a (encA y)) κ = κ (.b (!decide (x = y))) := by
  obtain ⟨a, b, c, d⟩ := x
  obtain ⟨a', b', c', d'⟩ := y
  simp only [encA, nea_ok]
  congr 3
  rw [Bool.eq_iff_iff]
  simp
end Go.Proofs.YtbkhielalbbopaaGreatDoor.Wb
