/- Who is where: the walks of 'Learn' and 'Want' of an address that is new, and of 'Mac'. -/
import Derived.Test.YthmnfjaogoennaaNe3
set_option linter.unusedSimpArgs false
set_option linter.unusedVariables false
set_option linter.unusedSectionVars false
set_option linter.unnecessarySimpa false
set_option maxRecDepth 100000
namespace Go.Proofs.Ythmnfjaogoennaa.Wb
open Go.Am

theorem push_ok {r q : Nat} {c : Option Nat} {now : Int} {es : List Ent} {e : Ent} {h : H} {κ : H → Prop} (ht : NT h r c now es) (hbd : Bd h) (hq : h.mem.get q = some (.c (enc e) 66 true)) (hw : oneV e.w = true) (hl : es.length ≤ 1000)
    (K : ∀ h' c', NT h' r c' now (es ++ [e]) → (c' = c ∨ ∃ z, c' = some z ∧ h.next ≤ z) → But2 h h' r c → κ h') :
    pw.l1 (.p r (0 + 2)) h fun v40 => pw.ln 14 (.p q 0) h fun v41 => pw.bs xx 60 1 [(0, v41)] h fun v42 h42 => pw.ap xx 60 60 v40 v42 h42 fun v43 h43 => pw.s1 (.p r (0 + 2)) v43 h43 fun h46 => κ h46 := by
  obtain ⟨lv, h1, h2, rfl, h3⟩ := ht
  have hr := hbd _ _ h1
  have hlv := h2.lt hbd
  simp (disch := omega) only [ws, l1_p, Nat.zero_add, h1, List.getElem?_cons_succ, List.getElem?_cons_zero]
  rw [ln_w (sz := 14) hq rfl]
  refine bs_a (cs := enc e) (l := [(0 * 14, .a (enc e))]) tt60 rfl tt66 (by decide) rfl rfl fun q2 h4 hg4 hb4 hq1 hq2 => ?_
  have g1 := hb4.get hr (by simp) h1
  have g2 := h2.keep hlv hb4 (.inr rfl)
  refine ap_vec (cs := enc e) (m := 1) tt60 rfl tt66 tt60 (by intro k e; cases e) rfl ?_ g2 rfl (by simp [enc, oneV]; exact hw) (by unfold most; simp; omega) (by unfold most; omega) fun v5 h5 hv5 hb5 hq5 => ?_
  · simp only [fcells, hg4]
    rfl
  replace hv5 : VecE h5 v5 66 14 enc (es ++ [e]) := by
    unfold VecE
    rw [encs_app, encs_one, List.length_append]
    exact hv5
  have g5 := hb5.get (Nat.lt_of_lt_of_le hr hb4.1) (fun e => h3 e.symm) g1
  have hne : vblk v5 ≠ some r := by
    rcases hq5 with h | ⟨h, _⟩
    · rw [h]; exact h3
    · rw [h]; intro e; cases e; have := hb4.1; omega
  refine s1_a (o := 2) g5 (by simp) ?_ fun h6 hg6 hb6 => ?_
  · rcases hv5 with ⟨_, ⟨rfl, _⟩ | ⟨_, _, _, _, rfl, _⟩⟩ <;> rfl
  have hlt5 : ∀ q, vblk v5 = some q → q < h5.next := by
    intro z hz
    rcases hq5 with h | ⟨h, h'⟩
    · rw [h] at hz
      exact Nat.lt_of_lt_of_le (hlv z hz) (Nat.le_trans hb4.1 hb5.1)
    · rw [h] at hz; cases hz; exact h'
  refine K h6 (vblk v5) ⟨v5, hg6, hv5.keep hlt5 hb6 (.inl hne), rfl, hne⟩ ?_ (((hb4.two (.inl rfl)).trans (hb5.two (.inr (.inr rfl)))).trans (hb6.two (.inr (.inl rfl))))
  rcases hq5 with h | ⟨h, _⟩
  · exact .inl h
  · exact .inr ⟨h4.next, h, hb4.1⟩

/-- The entries, one more made room for. -/
def roomed (s : Nat) (es : List Ent) : List Ent := if es.length < 32 then es else es.eraseIdx s

def learnE (a m : Nat) (t : Int) : Ent := ⟨a, true, m, t, 0, .ns⟩

theorem learn_ok {n : Nat} (hn : 4 ≤ n) {r s a m : Nat} {c : Option Nat} {now t : Int} {es : List Ent} {h : H} {K : V → H → Prop} (ht : NT h r c now es) (hs : Seg s es) (hl : es.length ≤ 32) (h0 : 0 ≤ t ∧ t ≤ 1000000) (hnow : now ≤ 1000000) (hf : fnd a es 0 = -1)
    (hk : ∀ h' c', Bd h' → But2 h h' r c → (c' = c ∨ ∃ z, c' = some z ∧ h.next ≤ z) → NT h' r c' (if now < t then t else now) (if es.length = 32 ∧ 32 ≤ s then es else roomed s es ++ [learnE a m (if now < t then t else now)]) → K .ns h') :
    Ok Try.prog n 28 [.p r 0, adr a, .a (macL m), .i .i64 t, .b true] h K := by
  obtain ⟨n, rfl⟩ := Nat.exists_eq_add_of_le' hn
  refine Ok.bd (K28 fun hbd => ?_)
  obtain ⟨hr, hc⟩ := ht.lt hbd
  simp (disch := omega) only [F28]
  refine bx_a (cs := [.i .u8 10, .i .u8 0, .i .u8 0, .i .u8 (a : Int)]) rfl fun b1 h1 g1 k1 p1 p1' => ?_
  refine bx_a (cs := macL m) rfl fun b2 h2 g2 k2 p2 p2' => ?_
  have k12 := k1.trans k2
  rw [cf_k]
  refine time_ok (by omega) (ht.keep hbd k12) h0 hnow fun h3 hbd3 k3 ht3 => ?_
  generalize hT : (if now < t then t else now) = T at hk ht3 ⊢
  have g13 := k3.get (Nat.lt_of_lt_of_le p1' k2.1) (by intro e; cases e; omega) (k2.get p1' (by simp) g1)
  have g23 := k3.get p2' (by intro e; cases e; have := k1.1; omega) g2
  rw [ln_w (sz := 4) g13 rfl, ln_w (sz := 6) g23 rfl]
  refine bl_a (v := .a (enc (learnE a m T))) ?_ ?_
  · simp only [blW, ti, tt66, tt45, tt4, tt40, tt2, placesSt, cellsOfV, macL, List.getElem?_cons_zero, List.getElem?_cons_succ, fillA]; rfl
  refine al_a tt66 fun b4 h4 g4 k4 p4 p4' => ?_
  refine sn_w (cs := enc (learnE a m T)) (w := .a (enc (learnE a m T))) g4 rfl rfl rfl rfl fun h5 g5 k5 => ?_
  have k35 : But h3 h5 none := k4.over k5 (.inr fun z e => by cases e; exact p4)
  have hbd5 := k35.2.2 hbd3
  have g15 := k35.get (Nat.lt_of_lt_of_le p1' (Nat.le_trans k2.1 k3.1)) (by simp) g13
  rw [ln_w (sz := 4) g15 rfl, cf_k]
  refine find_ok (by omega) (ht3.keep hbd3 k35) (by omega) fun h6 hbd6 k6 => ?_
  have k36 := k35.trans k6
  have ht6 := ht3.keep hbd3 k36
  rw [hf]
  simp (disch := omega) only [ws, dec_f, F28_23]
  have kk6 : But2 h h6 r c := ((k12.two (.inl rfl)).trans (k3.two (.inr (.inl rfl)))).trans (k36.two (.inl rfl))
  have g46 := k6.get (Nat.lt_of_lt_of_le p4' k5.1) (by simp) g5
  -- what is done once there is room
  have fin : ∀ (h7 : H) (es' : List Ent), Bd h7 → But2 h6 h7 r c → NT h7 r c T es' → es'.length ≤ 100 → (es'  ++ [learnE a m T] = (if es.length = 32 ∧ 32 ≤ s then es else roomed s es ++ [learnE a m T])) →
      (pw.l1 (.p r (0 + 2)) h7 fun v40 => pw.ln 14 (.p b4 0) h7 fun v41 => pw.bs xx 60 1 [(0, v41)] h7 fun v42 h42 => pw.ap xx 60 60 v40 v42 h42 fun v43 h43 => pw.s1 (.p r (0 + 2)) v43 h43 fun h46 => F28_27 pw xx (Ok Try.prog (n + 3)) (fun v h' => Bd h' → K v h') h46) := by
    intro h7 es' hbd7 k7 ht7 hl7 he
    have hb4r : b4 ≠ r := by have := k12.1; have := k3.1; omega
    have hb4c : some b4 ≠ c := by
      intro e
      have := hc b4 e.symm
      have := k12.1; have := k3.1; omega
    refine push_ok (e := learnE a m T) ht7 hbd7 (k7.get (Nat.lt_of_lt_of_le p4' (Nat.le_trans k5.1 k6.1)) hb4r hb4c g46) rfl (by omega) fun h8 c8 ht8 hc8 k8 => ?_
    simp only [F28_27]
    intro hbd8
    have k68 := (kk6.trans k7)
    refine hk h8 c8 hbd8 (k68.trans k8) ?_ (he ▸ ht8)
    rcases hc8 with h | ⟨z, h, hz⟩
    · exact .inl h
    · exact .inr ⟨z, h, Nat.le_trans k68.1 hz⟩
  refine room_ok (by omega) ht6 hs hl (fun h7 hbd7 k7 hlt => ?_) (fun h7 hbd7 hlt hs7 ht7 k7 => ?_) (fun h7 hbd7 k7 hlt hs7 => ?_)
  · simp (disch := omega) only [ws]
    refine fin h7 es hbd7 (k7.two (.inl rfl)) (ht6.keep hbd6 k7) (by omega) ?_
    rw [if_neg (by omega), roomed, if_pos hlt]
  · simp (disch := omega) only [ws]
    refine fin h7 (es.eraseIdx s) hbd7 k7 ht7 (by rw [List.length_eraseIdx]; split <;> omega) ?_
    rw [if_neg (by omega), roomed, if_neg (by omega)]
  · simp (disch := omega) only [ws, F28_27]
    intro hbd8
    refine hk h7 c hbd8 (kk6.trans (k7.two (.inl rfl))) (.inl rfl) ?_
    rw [if_pos ⟨hlt, hs7⟩]
    exact ht6.keep hbd6 k7

def askE (a : Nat) (t : Int) (w : V) : Ent := ⟨a, false, 0, t, 1, w⟩
def nextV (ask : Bool) : V := .a [.i .u8 0, .i .u8 0, .i .u8 0, .i .u8 0, .i .u8 0, .i .u8 0, .b false, .b ask]

theorem want_ok {n : Nat} (hn : 4 ≤ n) {r a : Nat} {c : Option Nat} {now t : Int} {es : List Ent} {h : H} {K : V → H → Prop} (ht : NT h r c now es) (hs : Seg es.length es) (hl : es.length ≤ 32) (h0 : 0 ≤ t ∧ t ≤ 1000000) (hnow : now ≤ 1000000) (hf : fnd a es 0 = -1)
    (hk : ∀ h' c' w, oneV w = true → Bd h' → But2 h h' r c → (c' = c ∨ ∃ z, c' = some z ∧ h.next ≤ z) → NT h' r c' (if now < t then t else now) (if es.length < 32 then es ++ [askE a (if now < t then t else now) w] else es) → K (nextV (decide (es.length < 32))) h') :
    Ok Try.prog n 26 [.p r 0, adr a, .ns, .i .i64 t] h K := by
  obtain ⟨n, rfl⟩ := Nat.exists_eq_add_of_le' hn
  refine Ok.bd (K26 fun hbd => ?_)
  obtain ⟨hr, hc⟩ := ht.lt hbd
  simp (disch := omega) only [F26]
  refine bx_a (cs := [.i .u8 10, .i .u8 0, .i .u8 0, .i .u8 (a : Int)]) rfl fun b1 h1 g1 k1 p1 p1' => ?_
  refine al_a tt42 fun b2 h2 g2 k2 p2 p2' => ?_
  have k12 := k1.trans k2
  rw [cf_k]
  refine time_ok (by omega) (ht.keep hbd k12) h0 hnow fun h3 hbd3 k3 ht3 => ?_
  generalize hT : (if now < t then t else now) = T at hk ht3 ⊢
  have g13 := k3.get (Nat.lt_of_lt_of_le p1' k2.1) (by intro e; cases e; omega) (k2.get p1' (by simp) g1)
  have g23 := k3.get p2' (by intro e; cases e; have := k1.1; omega) g2
  refine bs_a (cs := []) (l := []) tt22 rfl tt5 (by decide) rfl rfl fun b3 h4 g3 k4 p3 p3' => ?_
  have e0 : appendH xx h4 22 22 (.sl b3 0 0 0 false) .ns = some (.sl b3 0 0 0 false, h4) := by
    simp only [appendH, ti, tt22, tt5, lenV, fcells]
    rfl
  refine ap_e e0 ?_
  have k34 := k4
  rw [ln_w (sz := 4) (k4.get (Nat.lt_of_lt_of_le p1' (Nat.le_trans k2.1 k3.1)) (by simp) g13) rfl, cf_k]
  refine find_ok (by omega) (ht3.keep hbd3 k34) (by omega) fun h5 hbd5 k5 => ?_
  have k35 := k34.trans k5
  rw [ln_w (sz := 4) (k35.get (Nat.lt_of_lt_of_le p1' (Nat.le_trans k2.1 k3.1)) (by simp) g13) rfl]
  refine bs_a (cs := [.sl b3 0 0 0 false]) (l := [(0 * 1, .sl b3 0 0 0 false)]) tt47 rfl tt22 (by decide) rfl rfl fun b4 h6 g4 k6 p4 p4' => ?_
  refine bl_a (v := .a (enc (askE a T (.sl b4 0 1 1 false)))) ?_ ?_
  · simp only [blW, ti, tt66, placesSt, cellsOfV, List.getElem?_cons_zero, List.getElem?_cons_succ, fillA]; rfl
  refine al_a tt66 fun b5 h7 g5 k7 p5 p5' => ?_
  refine sn_w (cs := enc (askE a T (.sl b4 0 1 1 false))) (w := .a (enc (askE a T (.sl b4 0 1 1 false)))) g5 rfl rfl rfl rfl fun h8 g8 k8 => ?_
  have k68 : But h6 h8 none := k7.over k8 (.inr fun z e => by cases e; exact p5)
  have k38 : But h3 h8 none := (k35.trans k6).trans k68
  have hbd8 := k38.2.2 hbd3
  have ht8 := ht3.keep hbd3 k38
  rw [hf]
  simp (disch := omega) only [ws, dec_t]
  have kk8 : But2 h h8 r c := ((k12.two (.inl rfl)).trans (k3.two (.inr (.inl rfl)))).trans (k38.two (.inl rfl))
  have g28 := k38.get (Nat.lt_of_lt_of_le p2' k3.1) (by simp) g23
  have hb2 : b2 ≠ r ∧ some b2 ≠ c := by
    have := k1.1
    refine ⟨by omega, fun e => ?_⟩
    have := hc b2 e.symm
    omega
  have hb5 : b5 ≠ r ∧ some b5 ≠ c := by
    have := k12.1; have := k3.1; have := k35.1; have := k6.1
    refine ⟨by omega, fun e => ?_⟩
    have := hc b5 e.symm
    omega
  have l58 : b5 < h8.next := Nat.lt_of_lt_of_le p5' k8.1
  have l28 : b2 < h8.next := Nat.lt_of_lt_of_le p2' (Nat.le_trans k3.1 k38.1)
  refine room_ok (by omega) ht8 hs hl (fun h9 hbd9 k9 hlt => ?_) (fun h9 hbd9 hlt hs9 ht9 k9 => ?_) (fun h9 hbd9 k9 hlt hs9 => ?_)
  · simp (disch := omega) only [ws, Bool.not_true]
    refine push_ok (e := askE a T (.sl b4 0 1 1 false)) (ht8.keep hbd8 k9) hbd9 (k9.get l58 (by simp) g8) rfl (by omega) fun h10 c10 ht10 hc10 k10 => ?_
    refine bl_a (v := nextV true) ?_ ?_
    · simp only [blW, ti, tt42, placesSt, cellsOfV, List.getElem?_cons_zero, List.getElem?_cons_succ, fillA]; rfl
    have g10 := k10.get (Nat.lt_of_lt_of_le l28 k9.1) hb2.1 hb2.2 (k9.get l28 (by simp) g28)
    refine sn_w (w := nextV true) (cs := [.i .u8 0, .i .u8 0, .i .u8 0, .i .u8 0, .i .u8 0, .i .u8 0, .b false, .b true]) g10 rfl rfl rfl rfl fun h11 g11 k11 => ?_
    rw [ln_w (sz := 8) g11 rfl]
    intro hbd11
    have k89 := kk8.trans (k9.two (.inl rfl))
    have hk' := hk h11 c10 (.sl b4 0 1 1 false) rfl hbd11
    rw [if_pos hlt, decide_eq_true hlt] at hk'
    have hc10b : ∀ z, c10 = some z → z ≠ b2 := by
      intro z hz e
      subst e
      rcases hc10 with h | ⟨z', h, hz'⟩
      · exact hb2.2 (by rw [← hz, h])
      · rw [h] at hz; cases hz; have := k9.1; omega
    refine hk' ((k89.trans k10).over ⟨k11.1, fun q hq1 hq2 hq3 => k11.2.1 q hq1 hq3, k11.2.2⟩ (q := some b2) (.inr fun z e => by cases e; have := k1.1; omega)) ?_ ?_
    · rcases hc10 with h | ⟨z, h, hz⟩
      · exact .inl h
      · exact .inr ⟨z, h, Nat.le_trans k89.1 hz⟩
    · obtain ⟨lv, m1, m2, rfl, m3⟩ := ht10
      have hbd10 : Bd h10 := k10.2.2 hbd9
      exact ⟨lv, k11.get (hbd10 _ _ m1) (by intro e; cases e; exact hb2.1 rfl) m1, m2.keep (m2.lt hbd10) k11 (.inl (by intro e; exact hc10b _ e rfl)), rfl, m3⟩
  · omega
  · simp (disch := omega) only [ws, Bool.not_false]
    refine bl_a (v := nextV false) ?_ ?_
    · simp only [blW, ti, tt42, placesSt, fillA]; rfl
    refine sn_w (w := nextV false) (cs := [.i .u8 0, .i .u8 0, .i .u8 0, .i .u8 0, .i .u8 0, .i .u8 0, .b false, .b false]) (k9.get l28 (by simp) g28) rfl rfl rfl rfl fun h11 g11 k11 => ?_
    rw [ln_w (sz := 8) g11 rfl]
    intro hbd11
    have k89 := kk8.trans (k9.two (.inl rfl))
    have hk' := hk h11 c .ns rfl hbd11
    rw [if_neg (by omega), decide_eq_false (by omega)] at hk'
    refine hk' (k89.over ⟨k11.1, fun q hq1 hq2 hq3 => k11.2.1 q hq1 hq3, k11.2.2⟩ (q := some b2) (.inr fun z e => by cases e; have := k1.1; omega)) (.inl rfl) ?_
    obtain ⟨lv, m1, m2, rfl, m3⟩ := ht8.keep hbd8 k9
    exact ⟨lv, k11.get (hbd9 _ _ m1) (by intro e; cases e; exact hb2.1 rfl) m1, m2.keep (m2.lt hbd9) k11 (.inl (by intro e; exact hb2.2 e.symm)), rfl, m3⟩

theorem fnd_some {a : Nat} : ∀ {es : List Ent} {k : Nat} {i : Int}, fnd a es k = i → 0 ≤ i → ∃ j, ∃ h : j < es.length, i = (k + j : Nat) ∧ es[j].a = a
  | [], k, i, h, h0 => by simp only [fnd] at h; omega
  | e :: es, k, i, h, h0 => by
    simp only [fnd] at h
    by_cases he : e.a = a
    · rw [if_pos he] at h
      exact ⟨0, by simp, by omega, he⟩
    · rw [if_neg he] at h
      obtain ⟨j, hj, e1, e2⟩ := fnd_some h h0
      exact ⟨j + 1, by simpa using hj, by omega, by simpa using e2⟩
theorem fnd_lo {a : Nat} : ∀ (es : List Ent) (k : Nat), -1 ≤ fnd a es k
  | [], k => by simp [fnd]
  | e :: es, k => by
    simp only [fnd]
    split
    · omega
    · exact fnd_lo es (k + 1)

theorem mac_ok {n : Nat} (hn : 4 ≤ n) {r a : Nat} {c : Option Nat} {now t : Int} {es : List Ent} {h : H} {K : V → H → Prop} (ht : NT h r c now es) (hat : ∀ e ∈ es, 0 ≤ e.at' ∧ e.at' ≤ 1000000) (hl : es.length ≤ 32) (h0 : 0 ≤ t ∧ t ≤ 1000000) (hnow : 0 ≤ now ∧ now ≤ 1000000)
    (hk : ∀ h' m ok, Bd h' → But2 h h' r c → NT h' r c (if now < t then t else now) es → (fnd a es 0 = -1 → ok = false) → (∀ (i : Nat) (hi : i < es.length), fnd a es 0 = (i : Int) → ok = (es[i].kn && decide ((if now < t then t else now) - es[i].at' < 1000))) → K (.t [.a (macL m), .b ok]) h') :
    Ok Try.prog n 29 [.p r 0, adr a, .i .i64 t] h K := by
  obtain ⟨n, rfl⟩ := Nat.exists_eq_add_of_le' hn
  refine Ok.bd (K29 fun hbd => ?_)
  obtain ⟨hr, hc⟩ := ht.lt hbd
  simp (disch := omega) only [F29]
  refine bx_a (cs := [.i .u8 10, .i .u8 0, .i .u8 0, .i .u8 (a : Int)]) rfl fun b1 h1 g1 k1 p1 p1' => ?_
  refine al_a tt40 fun b2 h2 g2 k2 p2 p2' => ?_
  have k12 := k1.trans k2
  rw [cf_k]
  refine time_ok (by omega) (ht.keep hbd k12) h0 hnow.2 fun h3 hbd3 k3 ht3 => ?_
  have hTb : 0 ≤ (if now < t then t else now) ∧ (if now < t then t else now) ≤ 1000000 := by split <;> omega
  generalize hT : (if now < t then t else now) = T at hk ht3 hTb ⊢
  have g13 := k3.get (Nat.lt_of_lt_of_le p1' k2.1) (by intro e; cases e; omega) (k2.get p1' (by simp) g1)
  have g23 := k3.get p2' (by intro e; cases e; have := k1.1; omega) g2
  rw [ln_w (sz := 4) g13 rfl, cf_k]
  refine find_ok (by omega) ht3 (by omega) fun h5 hbd5 k5 => ?_
  have ht5 := ht3.keep hbd3 k5
  have kk5 : But2 h h5 r c := ((k12.two (.inl rfl)).trans (k3.two (.inr (.inl rfl)))).trans (k5.two (.inl rfl))
  have hb2 : b2 ≠ r ∧ some b2 ≠ c := by
    have := k1.1
    refine ⟨by omega, fun e => ?_⟩
    have := hc b2 e.symm
    omega
  have l25 : b2 < h5.next := Nat.lt_of_lt_of_le p2' (Nat.le_trans k3.1 k5.1)
  have g25 := k5.get (Nat.lt_of_lt_of_le p2' k3.1) (by simp) g23
  -- the answer is laid down and read
  have fin : ∀ (h6 : H) (m : Nat) (ok : Bool) (K' : V → H → Prop), Bd h6 → But h5 h6 none → (∀ h7, Bd h7 → But2 h h7 r c → NT h7 r c T es → K' (.a (macL m)) h7) → pw.sn 6 (.p b2 0) (.a (macL m)) h6 fun h7 => pw.ln 6 (.p b2 0) h7 fun v => Bd h7 → K' v h7 := by
    intro h6 m ok K' hbd6 k6 hk'
    refine sn_w (w := .a (macL m)) (cs := macL m) (k6.get l25 (by simp) g25) rfl rfl rfl rfl fun h7 g7 k7 => ?_
    rw [ln_w (sz := 6) g7 rfl]
    intro hbd7
    refine hk' h7 hbd7 ((kk5.trans (k6.two (.inl rfl))).over ⟨k7.1, fun q hq1 hq2 hq3 => k7.2.1 q hq1 hq3, k7.2.2⟩ (q := some b2) (.inr fun z e => by cases e; have := k1.1; omega)) ?_
    obtain ⟨lv, m1, m2, rfl, m3⟩ := ht5.keep hbd5 k6
    exact ⟨lv, k7.get (hbd6 _ _ m1) (by intro e; cases e; exact hb2.1 rfl) m1, m2.keep (m2.lt hbd6) k7 (.inl (by intro e; exact hb2.2 e.symm)), rfl, m3⟩
  have hlo := fnd_lo (a := a) es 0
  by_cases hneg : fnd a es 0 < 0
  · have e1 : fnd a es 0 = -1 := by omega
    rw [e1]
    simp (disch := omega) only [ws, dec_t]
    refine bl_a (v := .a (macL 0)) ?_ ?_
    · simp only [blW, ti, tt40, tt5, placesArr, fillA]; rfl
    exact fin h5 0 false (fun v h' => K (.t [v, .b false]) h') hbd5 (But.refl _ _) fun h7 hbd7 k7 ht7 => hk h7 0 false hbd7 k7 ht7 (fun _ => rfl) (fun i hi e => by omega)
  · obtain ⟨i, hi, e1, e2⟩ := fnd_some rfl (show 0 ≤ fnd a es 0 by omega)
    rw [Nat.zero_add] at e1
    rw [e1]
    obtain ⟨lv, m1, m2, m3, m4⟩ := id ht5
    simp (disch := omega) only [ws, dec_f, l1_p, m1, Nat.zero_add, List.getElem?_cons_succ, List.getElem?_cons_zero]
    refine vece_at enc_len m2 (i := i) rfl hi fun b ha => ?_
    rw [ha.all]
    try simp (disch := omega) only [ws]
    refine fresh_ok (by omega) ht5 hTb (hat _ (List.getElem_mem hi)) fun h6 hbd6 k6 => ?_
    have ht6 := ht5.keep hbd5 k6
    cases hok : (es[i].kn && decide (T - es[i].at' < 1000)) with
    | false =>
      simp (disch := omega) only [ws, Bool.not_false]
      refine bl_a (v := .a (macL 0)) ?_ ?_
      · simp only [blW, ti, tt40, tt5, placesArr, fillA]; rfl
      refine fin h6 0 false (fun v h' => K (.t [v, .b false]) h') hbd6 k6 fun h7 hbd7 k7 ht7 => hk h7 0 false hbd7 k7 ht7 (fun _ => rfl) (fun j hj e => ?_)
      obtain rfl : i = j := by omega
      exact hok.symm
    | true =>
      obtain ⟨lv6, n1, n2, n3, n4⟩ := id ht6
      simp (disch := omega) only [ws, Bool.not_true, F29_15, l1_p, n1, Nat.zero_add, List.getElem?_cons_succ, List.getElem?_cons_zero]
      refine vece_at enc_len n2 (i := i) rfl hi fun b' ha' => ?_
      rw [fa_p, ha'.getn (f := 5) (n := 6) (by omega)]
      refine fin h6 es[i].m true (fun v h' => K (.t [v, .b true]) h') hbd6 k6 fun h7 hbd7 k7 ht7 => hk h7 es[i].m true hbd7 k7 ht7 (fun e => by omega) (fun j hj e => ?_)
      obtain rfl : i = j := by omega
      exact hok.symm
end Go.Proofs.Ythmnfjaogoennaa.Wb
