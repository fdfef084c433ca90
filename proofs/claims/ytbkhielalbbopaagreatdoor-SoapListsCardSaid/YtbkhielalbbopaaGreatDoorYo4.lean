/- Which port is whose: the walks of 'out' and 'port'. -/
import Derived.Test.YtbkhielalbbopaaGreatDoorYo3
set_option linter.unusedSimpArgs false
set_option linter.unusedVariables false
set_option linter.unusedSectionVars false
set_option linter.unnecessarySimpa false
set_option maxRecDepth 100000
namespace Go.Proofs.YtbkhielalbbopaaGreatDoor.Wb
open Go.Am

/-- A flow. -/
structure Fl where
  p : Int
  ad : Ad
  po : Int
  deriving DecidableEq
def encF (f : Fl) : List V := [.i .i64 f.p, .i .u8 f.ad.a, .i .u8 f.ad.b, .i .u8 f.ad.c, .i .u8 f.ad.d, .i .i64 f.po]
def outE (f : Fl) (now : Int) (e : Mp) : Bool := decide (e.p = f.p) && (decide (e.ad = f.ad) && (decide (e.inn = f.po) && lvE e now))

/-- What 'out' may tell of the first so many entries. -/
def OutP (f : Fl) (now : Int) (es : List Mp) (b : Int) : Prop := (b = -1 ∧ ∀ e ∈ es, outE f now e = false) ∨ ∃ j, b = (j : Nat) ∧ ∃ h : j < es.length, outE f now es[j] = true

theorem OutP.no {f : Fl} {now : Int} {es : List Mp} {b : Int} {e : Mp} (h : OutP f now es b) (he : outE f now e = false) : OutP f now (es ++ [e]) b := by
  rcases h with ⟨rfl, h⟩ | ⟨j, rfl, hj, h⟩
  · refine .inl ⟨rfl, fun x hx => ?_⟩
    rcases List.mem_append.1 hx with h1 | h1
    · exact h x h1
    · rw [List.mem_singleton.1 h1]; exact he
  · exact .inr ⟨j, rfl, by rw [List.length_append]; omega, by rw [List.getElem_append_left hj]; exact h⟩
theorem OutP.old {f : Fl} {now : Int} {es : List Mp} {b : Int} {e : Mp} (h : OutP f now es b) (hb : 0 ≤ b) : OutP f now (es ++ [e]) b := by
  rcases h with ⟨rfl, h⟩ | ⟨j, rfl, hj, h⟩
  · omega
  · exact .inr ⟨j, rfl, by rw [List.length_append]; omega, by rw [List.getElem_append_left hj]; exact h⟩
theorem OutP.new {f : Fl} {now : Int} {es : List Mp} {e : Mp} (he : outE f now e = true) : OutP f now (es ++ [e]) (es.length : Nat) :=
  .inr ⟨es.length, rfl, by simp, by simpa using he⟩

theorem out_best {n : Nat} {r fb q k j : Nat} {low room tn now : Int} {es : List Mp} {e : Mp} {h : H} {lv : V} {K : V → H → Prop} {i17 : V → V → V → V → V → V → V → H → Prop} (hbd : Bd h) (h1 : h.mem.get r = some (.c [.i .i64 low, .i .i64 room, .i .i64 tn, lv] 86 true)) (h2 : VecE h lv 55 9 encM es) (hq : h.mem.get q = some (.c (encM e) 55 true)) (hj : j < es.length) (hk1 : k < 100000)
    (hk : ∀ h' b, Bd h' → But h h' none → (b = (j : Int) ∨ b = (k : Int)) → i17 (.p r 0) (.i .i64 now) (.p fb 0) (.i .i64 b) lv (.i .i64 (es.length : Nat)) (.i .i64 ((k + 1 : Nat) : Int)) h') :
    F48_50 pw xx (Ok Tryz.prog (n + 2)) K i17 (.p r 0) (.i .i64 now) (.p fb 0) (.i .i64 (j : Nat)) (.i .i64 (k : Nat)) (.p q 0) lv (.i .i64 (es.length : Nat)) (.i .i64 (k : Nat)) h := by
  have r7 : ∀ κ : V → Prop, pw.l1 (.p q (0 + 7)) h κ = κ (.i .i64 e.kd) := fun κ => l1_a hq rfl
  have r1 : ∀ κ : V → Prop, pw.l1 (.p q (0 + 1)) h κ = κ (.i .i64 e.o) := fun κ => l1_a hq rfl
  have r3 : ∀ κ : V → Prop, pw.l1 (.p r (0 + 3)) h κ = κ lv := fun κ => l1_a h1 rfl
  simp (disch := omega) only [F48_50, ws, dec_f, r7]
  refine rank_ok (by omega) fun _ => ⟨fun _ _ => rfl, ?_⟩
  simp (disch := omega) only [ws, r3]
  refine vece_at encM_len h2 (i := j) rfl hj fun b3 ha3 => ?_
  rw [fa_p, ha3.get (x := .i .i64 es[j].kd) rfl]
  try simp (disch := omega) only [ws]
  refine rank_ok (by omega) fun _ => ⟨fun _ _ => rfl, ?_⟩
  refine cmp_ok (by omega) fun _ => ⟨fun _ _ => rfl, ?_⟩
  simp (disch := omega) only [ws, r1, r3]
  refine vece_at encM_len h2 (i := j) rfl hj fun b4 ha4 => ?_
  rw [fa_p, ha4.get (x := .i .i64 es[j].o) rfl]
  try simp (disch := omega) only [ws]
  refine cmp_ok (by omega) fun _ => ?_
  try simp (disch := omega) only [ws]
  refine bs_a (cs := [.i .i64 (cmpZ (rankZ e.kd) (rankZ es[j].kd)), .i .i64 (cmpZ e.o es[j].o)]) (l := [(0 * 1, .i .i64 (cmpZ (rankZ e.kd) (rankZ es[j].kd))), (1 * 1, .i .i64 (cmpZ e.o es[j].o))]) tt169 rfl tt3 (by decide) rfl rfl fun b5 h5 hg5 hb5 _ _ => ?_
  refine or_ok (by omega) hg5 fun hbd5 => ?_
  try simp (disch := omega) only [ws]
  by_cases hlt : orZ (cmpZ (rankZ e.kd) (rankZ es[j].kd)) (cmpZ e.o es[j].o) < 0
  · simp (disch := omega) only [ws, dec_t hlt, F48_34]
    exact hk h5 k hbd5 hb5 (.inr rfl)
  · simp (disch := omega) only [ws, dec_f hlt, F48_34]
    exact hk h5 j hbd5 hb5 (.inl rfl)

theorem out_ok {n : Nat} (hn : 3 ≤ n) {r : Nat} {c : Option Nat} {low room tn now : Int} {es : List Mp} {f : Fl} {h : H} {K : V → H → Prop} (ht : PT h r c low room tn es) (hl : es.length ≤ 10000)
    (hk : ∀ h' b, Bd h' → But h h' none → OutP f now es b → K (.i .i64 b) h') : Ok Tryz.prog n 48 [.p r 0, .a (encF f), .i .i64 now] h K := by
  obtain ⟨n, rfl⟩ := Nat.exists_eq_add_of_le' hn
  refine K48 (n := n + 2) fun hbd => ?_
  simp (disch := omega) only [F48]
  refine bx_a (cs := encF f) rfl fun fb h1 hfb hb1 hf1 hf2 => ?_
  have hbd1 := hb1.2.2 hbd
  obtain ⟨lv, g1, g2, g3⟩ := ht.keep hbd hb1
  rw [nl_p, fa_p, l1_a g1 rfl, vece_len tt84 rfl g2]
  have main : ∀ (fuel k : Nat) (h' : H) (b : Int), es.length < fuel + k → k ≤ es.length → Bd h' → But h1 h' none → OutP f now (es.take k) b → F48_17 pw xx (Ok Tryz.prog (n + 2)) K fuel (.p r 0) (.i .i64 now) (.p fb 0) (.i .i64 b) lv (.i .i64 (es.length : Nat)) (.i .i64 (k : Nat)) h' := by
    intro fuel
    induction fuel with
    | zero => intro k h' b a1 a2; omega
    | succ fuel ih =>
      intro k h' b a1 a2 hbd' hb ho
      rw [S48_17]
      by_cases hlt : k < es.length
      · simp (disch := omega) only [ws, dec_t, F48_26]
        refine vece_at encM_len (g2.keep (g2.lt hbd1) hb (.inr rfl)) rfl hlt fun b0 ha => ?_
        rw [ha.all]
        refine al_a tt55 fun q h4 hq hb4 hq1 hq2 => ?_
        refine sn_w (w := .a (encM es[k])) (cs := encM es[k]) hq rfl (encM_len _) rfl (encM_one _) fun h5 hq5 hb5 => ?_
        have hb05 : But h1 h5 none := (hb.trans hb4).over hb5 (.inr fun r e => by cases e; exact Nat.le_trans hb.1 hq1)
        have hf5 := hb05.get hf2 (by simp) hfb
        have g15 := hb05.get (hbd1 _ _ g1) (by simp) g1
        have g25 := g2.keep (g2.lt hbd1) hb05 (.inr rfl)
        have hbd5 := hb05.2.2 hbd1
        have e1 : es.take (k + 1) = es.take k ++ [es[k]] := List.take_succ_eq_append_getElem hlt
        have hlen : (es.take k).length = k := by rw [List.length_take]; omega
        generalize hE : es[k] = e at hq5 e1
        have r0 : ∀ κ : V → Prop, pw.l1 (.p q (0 + 0)) h5 κ = κ (.i .i64 e.p) := fun κ => l1_a hq5 rfl
        have r6 : ∀ κ : V → Prop, pw.l1 (.p q (0 + 6)) h5 κ = κ (.i .i64 e.inn) := fun κ => l1_a hq5 rfl
        have r2 : ∀ κ : V → Prop, pw.ln 4 (.p q (0 + 2)) h5 κ = κ (.a (encA e.ad)) := fun κ => by rw [ln_a (sz := 4) hq5 (by simp [encM])]; rfl
        have r9 : ∀ κ : V → Prop, pw.ln 9 (.p q 0) h5 κ = κ (.a (encM e)) := fun κ => by rw [ln_w (sz := 9) hq5 rfl]
        have f0 : ∀ κ : V → Prop, pw.l1 (.p fb (0 + 0)) h5 κ = κ (.i .i64 f.p) := fun κ => l1_a hf5 rfl
        have f5 : ∀ κ : V → Prop, pw.l1 (.p fb (0 + 5)) h5 κ = κ (.i .i64 f.po) := fun κ => l1_a hf5 rfl
        have f1 : ∀ κ : V → Prop, pw.ln 4 (.p fb (0 + 1)) h5 κ = κ (.a (encA f.ad)) := fun κ => by rw [ln_a (sz := 4) hf5 (by simp [encF])]; rfl
        have hno : ∀ h6, Bd h6 → But h5 h6 none → outE f now e = false → F48_34 pw xx (Ok Tryz.prog (n + 2)) K (F48_17 pw xx (Ok Tryz.prog (n + 2)) K fuel) (.p r 0) (.i .i64 now) (.p fb 0) (.i .i64 b) lv (.i .i64 (es.length : Nat)) (.i .i64 (k : Nat)) h6 := by
          intro h6 hbd6 hb6 he
          simp (disch := omega) only [F48_34, ws]
          exact ih (k + 1) h6 b (by omega) (by omega) hbd6 (hb05.trans hb6) (by rw [e1]; exact ho.no he)
        simp only [fa_p, r0, f0, ne_i]
        by_cases c1 : e.p = f.p
        · simp (disch := omega) only [ws, dec_t c1, Bool.not_true, r2, f1, nead]
          by_cases c2 : e.ad = f.ad
          · simp (disch := omega) only [ws, dec_t c2, Bool.not_true, r6, f5]
            by_cases c3 : e.inn = f.po
            · simp (disch := omega) only [ws, dec_t c3, Bool.not_true, r9]
              refine live_ok (by omega) fun h6 hbd6 hb6 => ?_
              cases hlv : lvE e now with
              | false =>
                simp (disch := omega) only [ws, Bool.not_false]
                exact hno h6 hbd6 hb6 (by simp [outE, hlv])
              | true =>
                have hE1 : outE f now e = true := by simp [outE, hlv, c1, c2, c3]
                simp (disch := omega) only [ws, Bool.not_true]
                rcases id ho with ⟨rfl, _⟩ | ⟨j, rfl, hj, _⟩
                · simp (disch := omega) only [F48_50, ws, dec_t, F48_34]
                  have := ih (k + 1) h6 k (by omega) (by omega) hbd6 (hb05.trans hb6) (by rw [e1]; have := OutP.new (es := es.take k) hE1; rw [hlen] at this; exact this)
                  exact this
                · rw [hlen] at hj
                  refine out_best (n := n) (q := q) (es := es) (j := j) (k := k) hbd6 (hb6.get (hbd5 _ _ g15) (by simp) g15) (g25.keep (g25.lt hbd5) hb6 (.inr rfl)) (hb6.get (hbd5 _ _ hq5) (by simp) hq5) (by omega) (by omega) fun h7 b7 hbd7 hb7 hb => ?_
                  refine ih (k + 1) h7 b7 (by omega) (by omega) hbd7 (hb05.trans (hb6.trans hb7)) ?_
                  rw [e1]
                  rcases hb with rfl | rfl
                  · exact ho.old (by omega)
                  · have := OutP.new (es := es.take k) hE1; rw [hlen] at this; exact this
            · simp (disch := omega) only [ws, dec_f c3, Bool.not_false]
              exact hno h5 hbd5 (But.refl _ _) (by simp [outE, c3])
          · simp (disch := omega) only [ws, dec_f c2, Bool.not_false]
            exact hno h5 hbd5 (But.refl _ _) (by simp [outE, c2])
        · simp (disch := omega) only [ws, dec_f c1, Bool.not_false]
          exact hno h5 hbd5 (But.refl _ _) (by simp [outE, c1])
      · simp (disch := omega) only [ws, dec_f, F48_7]
        rw [List.take_of_length_le (by omega)] at ho
        exact hk h' b hbd' (hb1.trans hb) ho
  exact main 100000 0 h1 (-1) (by omega) (by omega) hbd1 (But.refl _ _) (.inl ⟨rfl, fun e he => by cases he⟩)

/-- Whether a port is somebody's. -/
def freeP (p o now : Int) (es : List Mp) : Prop := fndP (fdE p o now) es 0 < 0

theorem port_ok {n : Nat} (hn : 5 ≤ n) {r : Nat} {c : Option Nat} {low room tn now : Int} {es : List Mp} {f : Fl} {h : H} {K : V → H → Prop} (ht : PT h r c low room tn es) (hl : es.length ≤ 10000) (hlow : 1024 ≤ low ∧ low ≤ 60000)
    (k1 : ∀ h', Bd h' → But h h' none → low ≤ f.po → freeP f.p f.po now es → K (.t [.i .i64 f.po, .b true]) h')
    (k2 : ∀ h' o, Bd h' → But h h' none → ¬ (low ≤ f.po ∧ freeP f.p f.po now es) → low ≤ o → o ≤ 65535 → freeP f.p o now es → (∀ z, low ≤ z → z < o → ¬ freeP f.p z now es) → K (.t [.i .i64 o, .b true]) h')
    (k3 : ∀ h', Bd h' → But h h' none → (∀ z, low ≤ z → z ≤ 65535 → ¬ freeP f.p z now es) → K (.t [.i .i64 0, .b false]) h') : Ok Tryz.prog n 49 [.p r 0, .a (encF f), .i .i64 now] h K := by
  obtain ⟨n, rfl⟩ := Nat.exists_eq_add_of_le' hn
  refine K49 (n := n + 4) fun hbd => ?_
  simp (disch := omega) only [F49]
  refine bx_a (cs := encF f) rfl fun fb h1 hfb hb1 hf1 hf2 => ?_
  have hbd1 := hb1.2.2 hbd
  have ht1 := ht.keep hbd hb1
  obtain ⟨lv, g1, g2, g3⟩ := id ht1
  have r0 : ∀ κ : V → Prop, pw.l1 (.p r (0 + 0)) h1 κ = κ (.i .i64 low) := fun κ => l1_a g1 rfl
  have f0 : ∀ κ : V → Prop, pw.l1 (.p fb (0 + 0)) h1 κ = κ (.i .i64 f.p) := fun κ => l1_a hfb rfl
  have f5 : ∀ κ : V → Prop, pw.l1 (.p fb (0 + 5)) h1 κ = κ (.i .i64 f.po) := fun κ => l1_a hfb rfl
  have main : ∀ (h2 : H), Bd h2 → But h1 h2 none → ¬ (low ≤ f.po ∧ freeP f.p f.po now es) → F49_7 pw xx (Ok Tryz.prog (n + 4)) K (.p r 0) (.i .i64 now) (.p fb 0) h2 := by
    intro h2 hbd2 hb2 hno
    have r0 : ∀ κ : V → Prop, pw.l1 (.p r (0 + 0)) h2 κ = κ (.i .i64 low) := fun κ => l1_a (hb2.get (hbd1 _ _ g1) (by simp) g1) rfl
    simp (disch := omega) only [F49_7, ws, r0]
    have loop : ∀ (fuel : Nat) (o : Int) (h3 : H), 65536 < fuel + o → low ≤ o → o ≤ 65536 → Bd h3 → But h1 h3 none → (∀ z, low ≤ z → z < o → ¬ freeP f.p z now es) → F49_19 pw xx (Ok Tryz.prog (n + 4)) K fuel (.p r 0) (.i .i64 now) (.p fb 0) (.i .i64 o) h3 := by
      intro fuel
      induction fuel with
      | zero => intro o h3 a1 a2; omega
      | succ fuel ih =>
        intro o h3 a1 a2 a3 hbd3 hb3 hz
        rw [S49_19]
        by_cases hle : o ≤ 65535
        · have f0 : ∀ κ : V → Prop, pw.l1 (.p fb (0 + 0)) h3 κ = κ (.i .i64 f.p) := fun κ => l1_a (hb3.get hf2 (by simp) hfb) rfl
          simp (disch := omega) only [ws, dec_t, F49_24, f0]
          refine find_ok (by omega) (ht1.keep hbd1 hb3) hl fun h4 hbd4 hb4 => ?_
          by_cases hfr : fndP (fdE f.p o now) es 0 < 0
          · simp (disch := omega) only [ws, dec_t hfr]
            exact k2 h4 o hbd4 (hb1.trans (hb3.trans hb4)) hno a2 hle hfr hz
          · simp (disch := omega) only [ws, dec_f hfr, F49_29]
            refine ih (o + 1) h4 (by omega) (by omega) (by omega) hbd4 (hb3.trans hb4) fun z z1 z2 => ?_
            by_cases hzo : z = o
            · rw [hzo]; exact hfr
            · exact hz z z1 (by omega)
        · simp (disch := omega) only [ws, dec_f, F49_11]
          exact k3 h3 hbd3 (hb1.trans hb3) fun z z1 z2 => hz z z1 (by omega)
    exact loop 100000 low h2 (by omega) (by omega) (by omega) hbd2 hb2 fun z z1 z2 => by omega
  simp only [nl_p, fa_p, r0, f5, ge_i]
  by_cases c1 : low ≤ f.po
  · simp (disch := omega) only [ws, dec_t c1, f0, f5]
    refine find_ok (by omega) ht1 hl fun h4 hbd4 hb4 => ?_
    by_cases hfr : fndP (fdE f.p f.po now) es 0 < 0
    · have f5' : ∀ κ : V → Prop, pw.l1 (.p fb (0 + 5)) h4 κ = κ (.i .i64 f.po) := fun κ => l1_a (hb4.get hf2 (by simp) hfb) rfl
      simp (disch := omega) only [ws, dec_t hfr, f5']
      exact k1 h4 hbd4 (hb1.trans hb4) c1 hfr
    · simp (disch := omega) only [ws, dec_f hfr]
      exact main h4 hbd4 hb4 fun h => hfr h.2
  · simp (disch := omega) only [ws, dec_f c1]
    exact main h1 hbd1 (But.refl _ _) fun h => c1 h.1
end Go.Proofs.YtbkhielalbbopaaGreatDoor.Wb
