/- Who has which address, with fixed devices and barred addresses: 'free', 'rank', 'next'. -/
import Derived.Test.YtfkbofbdonmpfaaPr11
set_option linter.unusedSimpArgs false
set_option linter.unusedVariables false
set_option linter.unusedSectionVars false
set_option linter.unnecessarySimpa false
set_option maxRecDepth 100000
namespace Go.Proofs.Ytfkbofbdonmpfaa.Wb
open Go.Am

/-- An address that may be given. -/
def FreeC (now : Int) (fx : List Le) (ms : List (V × V × Nat)) (first last a : Int) (es : List He) : Prop := first ≤ a ∧ a ≤ last ∧ (∀ x ∈ fx, x.a ≠ a) ∧ (∀ j (h : j < es.length), fndP (isA a) es 0 = (j : Nat) → ¬ now < es[j].l.un) ∧ ¬ now < barT ms a

theorem PG.keepz {h h' : H} {r z : Nat} {c : Option Nat} {fx : List Le} {ms : List (V × V × Nat)} {first last now : Int} {es : List He} {l : List V} (ht : PG h r c fx ms first last now es) (hd : Bd h) (hz : h.mem.get z = some (.c l 28 true)) (hk : But h h' (some z)) : PG h' r c fx ms first last now es := by
  obtain ⟨lv, fv, mb, k, h1, h2, h3, h4, h5, h6, h7, h8⟩ := ht
  have n1 : r ≠ z := fun e => by rw [e, hz] at h1; cases h1
  have n2 : mb ≠ z := fun e => by rw [e, hz] at h5; cases h5
  have n3 : vblk lv ≠ some z := fun e => by
    obtain ⟨l2, hl⟩ := vece_blkt h2 e
    rw [hz] at hl; cases hl
  have n4 : vblk fv ≠ some z := fun e => by
    obtain ⟨l2, hl⟩ := vece_blkt h7 e
    rw [hz] at hl; cases hl
  exact ⟨lv, fv, mb, k, hk.get (hd _ _ h1) (fun e => n1 (by cases e; rfl)) h1, h2.keep (h2.lt hd) hk (.inl n3), h3, h4, hk.get (hd _ _ h5) (fun e => n2 (by cases e; rfl)) h5, h6, h7.keep (h7.lt hd) hk (.inl n4), h8⟩

theorem freeG_ok {n : Nat} (hn : 5 ≤ n) {r : Nat} {c : Option Nat} {fx : List Le} {ms : List (V × V × Nat)} {first last now a : Int} (hfx : fx.length ≤ 10000) (ha : 0 ≤ a ∧ a ≤ 255) {es : List He} (hl : es.length ≤ 10000) {h : H} {K : V → H → Prop} (ht : PG h r c fx ms first last now es)
    (hk : ∀ h' b, Bd h' → But h h' none → (b = true → FreeC now fx ms first last a es) → K (.b b) h') : Ok Try.prog n 93 [.p r 0, .a (adV a)] h K := by
  obtain ⟨n, rfl⟩ := Nat.exists_eq_add_of_le' hn
  refine Ok.bd (K93 (n := n + 4) fun hbd => ?_)
  simp only [F93]
  refine bx_a (cs := adV a) rfl fun q h1 hq hb1 _ hq2 => ?_
  rw [ln_w (sz := 4) hq rfl, cf_k]
  refine hasG_ok (by omega) hfx ha (ht.keep hbd hb1) fun h2 b hbd2 hb2 hb => ?_
  have hq2' := hb2.get hq2 (by simp) hq
  have hql := Nat.lt_of_lt_of_le hq2 hb2.1
  have hb02 := hb1.trans hb2
  cases b with
  | false =>
    simp (disch := omega) only [ws]
    intro hb'
    exact hk h2 false hb' hb02 fun h => by cases h
  | true =>
    obtain ⟨i1, i2, i3⟩ := hb.1 rfl
    simp (disch := omega) only [ws, ln_w (sz := 4) hq2' rfl]
    refine ofG_ok (by omega) (ht.keep hbd hb02) hl fun h3 hbd3 hb3 => ?_
    have hb03 := hb02.trans hb3
    have hq3 := hb3.get hql (by simp) hq2'
    have ht3 := ht.keep hbd hb03
    by_cases hneg : fndP (isA a) es 0 < 0
    · refine live_no (by omega) hneg fun _ => ?_
      simp (disch := omega) only [ws, Bool.not_false, ln_w (sz := 4) hq3 rfl]
      refine barredG_ok (by omega) ht3 fun h4 hbd4 hb4 => ?_
      by_cases hbar : now < barT ms a
      · simp (disch := omega) only [ws, dec_t hbar, Bool.not_true]
        intro hb'
        exact hk h4 false hb' (hb03.trans hb4) fun h => by cases h
      · simp (disch := omega) only [ws, dec_f hbar, Bool.not_false]
        intro hb'
        exact hk h4 true hb' (hb03.trans hb4) fun _ => ⟨i1, i2, i3, fun j hj h => by omega, hbar⟩
    · obtain ⟨j, hj, g1, g2, g3⟩ := fndP_some (show 0 ≤ fndP (isA a) es 0 by omega)
      rw [Nat.zero_add] at g1
      rw [g1]
      refine liveG_ok (by omega) hj ht3 fun _ => ?_
      by_cases hlv : now < es[j].l.un
      · simp (disch := omega) only [ws, dec_t hlv, Bool.not_true]
        intro hb'
        exact hk h3 false hb' hb03 fun h => by cases h
      · simp (disch := omega) only [ws, dec_f hlv, Bool.not_false, ln_w (sz := 4) hq3 rfl]
        refine barredG_ok (by omega) ht3 fun h4 hbd4 hb4 => ?_
        by_cases hbar : now < barT ms a
        · simp (disch := omega) only [ws, dec_t hbar, Bool.not_true]
          intro hb'
          exact hk h4 false hb' (hb03.trans hb4) fun h => by cases h
        · simp (disch := omega) only [ws, dec_f hbar, Bool.not_false]
          intro hb'
          refine hk h4 true hb' (hb03.trans hb4) fun _ => ⟨i1, i2, i3, fun i hi h => ?_, hbar⟩
          have e : i = j := by omega
          subst e
          exact hlv

theorem rankG_ok {n : Nat} (hn : 4 ≤ n) {r : Nat} {c : Option Nat} {fx : List Le} {ms : List (V × V × Nat)} {first last now a m : Int} {es : List He} (hl : es.length ≤ 10000) {h : H} {K : V → H → Prop} (ht : PG h r c fx ms first last now es) (hk : ∀ h' k t, Bd h' → But h h' none → K (.t [.i .i64 k, .i .i64 t]) h') : Ok Try.prog n 146 [.p r 0, .a (maV m), .a (adV a)] h K := by
  obtain ⟨n, rfl⟩ := Nat.exists_eq_add_of_le' hn
  refine Ok.bd (K146 (n := n + 3) fun hbd => ?_)
  simp only [F146]
  refine bx_a (cs := maV m) rfl fun p h1 hp hb1 _ hp2 => ?_
  refine bx_a (cs := adV a) rfl fun q h2 hq hb2 _ hq2 => ?_
  have hb02 := hb1.trans hb2
  have hp' := hb2.get hp2 (by simp) hp
  rw [ln_w (sz := 4) hq rfl, cf_k]
  refine ofG_ok (by omega) (ht.keep hbd hb02) hl fun h3 hbd3 hb3 => ?_
  have hb03 := hb02.trans hb3
  have hp3 := hb3.get (Nat.lt_of_lt_of_le hp2 hb2.1) (by simp) hp'
  by_cases hneg : fndP (isA a) es 0 < 0
  · simp (disch := omega) only [ws, dec_t hneg]
    intro hb
    exact hk h3 _ _ hb hb03
  · obtain ⟨j, hj, g1, g2, g3⟩ := fndP_some (show 0 ≤ fndP (isA a) es 0 by omega)
    rw [Nat.zero_add] at g1
    obtain ⟨lv, fv, mb, kk, f1, f2, f3⟩ := ht.keep hbd hb03
    have r3 : ∀ κ : V → Prop, pw.l1 (.p r (0 + 3)) h3 κ = κ lv := fun κ => l1_a f1 rfl
    rw [g1]
    simp (disch := omega) only [ws, dec_f, r3]
    refine vece_at encH_len f2 (i := j) rfl hj fun b ha => ?_
    have l0 : ∀ κ : V → Prop, pw.ln 6 (.p b (j * 12 + 0 + 0)) h3 κ = κ (.a (maV es[j].l.m)) := fun κ => by
      rw [Nat.add_assoc, ha.getn (f := 0 + 0) (n := 6) (by omega)]; rfl
    simp (disch := omega) only [ws, l0, ln_w (sz := 6) hp3 rfl, eqm_ok]
    by_cases hm : es[j].l.m = m
    · simp (disch := omega) only [ws, dec_t hm]
      intro hb
      exact hk h3 _ _ hb hb03
    · simp (disch := omega) only [ws, dec_f hm, F146_12, r3]
      refine vece_at encH_len f2 (i := j) rfl hj fun b2 ha2 => ?_
      have l10 : ∀ κ : V → Prop, pw.l1 (.p b2 (j * 12 + 0 + 10)) h3 κ = κ (.i .i64 es[j].l.un) := fun κ => by
        rw [Nat.add_assoc, ha2.get (f := 0 + 10) (x := .i .i64 es[j].l.un) rfl]
      simp (disch := omega) only [ws, l10]
      intro hb
      exact hk h3 _ _ hb hb03

set_option maxHeartbeats 2000000 in
theorem nextG_ok {n : Nat} (hn : 6 ≤ n) {r : Nat} {c : Option Nat} {fx : List Le} {ms : List (V × V × Nat)} {first last now m : Int} (hfx : fx.length ≤ 10000) (hp : 0 ≤ first ∧ first ≤ last ∧ last ≤ 255) {es : List He} (hl : es.length ≤ 10000) {h : H} {K : V → H → Prop} (ht : PG h r c fx ms first last now es)
    (k1 : ∀ h', Bd h' → But h h' none → K (.t [.a zeV, .i .i64 7]) h')
    (k2 : ∀ h' a, Bd h' → But h h' none → FreeC now fx ms first last a es → K (.t [.a (adV a), .i .i64 0]) h') : Ok Try.prog n 94 [.p r 0, .a (maV m)] h K := by
  obtain ⟨n, rfl⟩ := Nat.exists_eq_add_of_le' hn
  refine Ok.bd (K94 (n := n + 5) fun hbd => ?_)
  simp only [F94]
  refine bx_a (cs := maV m) rfl fun p h1 hpm hb1 hp1 hp2 => ?_
  refine al_a tt28 fun z h2 hz hb2 hz1 hz2 => ?_
  refine bl_a (v := .a zeV) ?_ ?_
  · simp only [blW, ti, tt28, tt5, placesArr, cellsOfV, fillA]; rfl
  refine al_a tt28 fun b h3 hbb hb3 hbb1 hbb2 => ?_
  refine sn_w (w := .a zeV) (cs := zeV) hbb rfl rfl rfl rfl fun h4 hb4g hb4 => ?_
  have hb24 : But h2 h4 none := hb3.over hb4 (.inr fun r e => by cases e; exact hbb1)
  have hb04 : But h h4 none := (hb1.trans hb2).trans hb24
  have hbd4 := hb04.2.2 hbd
  have ht4 := ht.keep hbd hb04
  have hz4 := hb24.get hz2 (by simp) hz
  have hp4 := (hb2.trans hb24).get hp2 (by simp) hpm
  have hzl : z < h4.next := Nat.lt_of_lt_of_le hz2 hb24.1
  have hpl : p < h4.next := Nat.lt_of_lt_of_le hp2 (hb2.trans hb24).1
  have hbl : b < h4.next := Nat.lt_of_lt_of_le hbb2 hb4.1
  have hzb : z ≠ b := by omega
  have hpb : p ≠ b := by have := hb2.1; omega
  -- the table in a heap where the best one's box alone was laid
  have htb : ∀ h5, But h4 h5 (some b) → PG h5 r c fx ms first last now es := fun h5 hb5 => ht4.keepz hbd4 hb4g hb5
  have h0b : h.next ≤ b := Nat.le_trans (hb1.trans hb2).1 hbb1
  obtain ⟨lv, fv, mb, kk, f1, f2, f3⟩ := id ht4
  have r0 : ∀ κ : V → Prop, pw.l1 (.p r (0 + 0)) h4 κ = κ (.i .u32 (numA first)) := fun κ => l1_a f1 rfl
  have cu : ∀ (a : Int) (ha : 0 ≤ a ∧ a ≤ 255) (κ : V → Prop), pw.ci xx 59 190 .u64 (.i .u32 (numA a)) κ = κ (.i .u64 (numA a)) := fun a ha κ => ci_u64 (by simp only [numA]; omega)
  have cd : ∀ (a : Int) (ha : 0 ≤ a ∧ a ≤ 255) (κ : V → Prop), pw.ci xx 190 59 .u32 (.i .u64 (numA a)) κ = κ (.i .u32 (numA a)) := fun a ha κ => ci_u32 (by simp only [numA]; omega)
  simp (disch := omega) only [ws, r0, cu first (by omega)]
  have loop : ∀ (fuel : Nat) (a : Int) (h5 : H) (best : Option Int) (rk tt : Int), last + 1 < fuel + a → first ≤ a → a ≤ last + 1 → Bd h5 → But h4 h5 (some b) →
      (match best with
        | none => h5.mem.get b = some (.c zeV 28 true)
        | some x => h5.mem.get b = some (.c (adV x) 28 true) ∧ FreeC now fx ms first last x es) →
      F94_35 pw xx (Ok Try.prog (n + 5)) (fun v h' => Bd h' → K v h') fuel (.p r 0) (.p p 0) (.p z 0) (.p b 0) (.i .i64 rk) (.i .i64 tt) (.b best.isSome) (.i .u64 (numA a)) h5 := by
    intro fuel
    induction fuel with
    | zero => intro a h5 best rk tt a1 a2 a3; omega
    | succ fuel ih =>
      intro a h5 best rk tt a1 a2 a3 hbd5 hb5 hbest
      rw [S94_35]
      have ht5 := htb h5 hb5
      obtain ⟨lv, fv, mb, kk, f1, f2, f3⟩ := id ht5
      have r1 : ∀ κ : V → Prop, pw.l1 (.p r (0 + 1)) h5 κ = κ (.i .u32 (numA last)) := fun κ => l1_a f1 rfl
      have dl : decide (numA a ≤ numA last) = decide (a ≤ last) := by rw [decide_eq_decide]; simp only [numA]; omega
      have inc : ∀ κ : V → Prop, pw.ad xx 190 (.i .u64 (numA a)) (.i .u64 1) κ = κ (.i .u64 (numA (a + 1))) := fun κ => by
        rw [ad_u64 (by simp only [numA]; omega)]
        congr 2
        simp only [numA]; omega
      simp (disch := omega) only [ws, r1, cu last (by omega), dl]
      by_cases hle : a ≤ last
      · simp (disch := omega) only [ws, dec_t hle, F94_44, cd a (by omega)]
        refine of_ok (by omega) (by omega) fun h6 hbd6 hb6 => ?_
        refine al_a tt28 fun q h7 hq hb7 hq1 hq2 => ?_
        refine sn_w (w := .a (adV a)) (cs := adV a) hq rfl rfl rfl rfl fun h8 hq8 hb8 => ?_
        rw [ln_w (sz := 4) hq8 rfl]
        have hb58 : But h5 h8 none := (hb6.trans hb7).over hb8 (.inr fun r e => by cases e; exact Nat.le_trans hb6.1 hq1)
        have hb48 : But h4 h8 (some b) := hb5.trans (hb58.none _)
        have hql : q < h8.next := Nat.lt_of_lt_of_le hq2 hb8.1
        refine freeG_ok (by omega) hfx (by omega) hl (htb h8 hb48) fun h9 fb hbd9 hb9 hf => ?_
        have hb49 : But h4 h9 (some b) := hb48.trans (hb9.none _)
        have hb59 := hb58.trans hb9
        have hb5l : b < h5.next := Nat.lt_of_lt_of_le hbl hb5.1
        cases fb with
        | false =>
          simp (disch := omega) only [ws, Bool.not_false, F94_53, inc]
          refine ih (a + 1) h9 best rk tt (by omega) (by omega) (by omega) hbd9 hb49 ?_
          cases best with
          | none => exact hb59.get hb5l (by simp) hbest
          | some x => exact ⟨hb59.get hb5l (by simp) hbest.1, hbest.2⟩
        | true =>
          have hfr := hf rfl
          simp (disch := omega) only [ws, Bool.not_true, F94_70]
          have hp9 := hb49.get hpl (by intro e; cases e; exact hpb rfl) hp4
          have hq9 := hb9.get hql (by simp) hq8
          simp (disch := omega) only [ln_w (sz := 6) hp9 rfl, ln_w (sz := 4) hq9 rfl, cf_k]
          refine rankG_ok (by omega) hl (htb h9 hb49) fun h10 k t hbd10 hb10 => ?_
          have hb410 : But h4 h10 (some b) := hb49.trans (hb10.none _)
          have hb510 := hb59.trans hb10
          have hq10 := hb10.get (Nat.lt_of_lt_of_le hql hb9.1) (by simp) hq9
          have upd : pw.ln 4 (.p q 0) h10 fun v117 => pw.sn 4 (.p b 0) v117 h10 fun h120 => F94_53 pw xx (Ok Try.prog (n + 5)) (fun v h' => Bd h' → K v h') (F94_35 pw xx (Ok Try.prog (n + 5)) (fun v h' => Bd h' → K v h') fuel) (.p r 0) (.p p 0) (.p z 0) (.p b 0) (.i .i64 k) (.i .i64 t) (.b true) (.i .u64 (numA a)) h120 := by
            obtain ⟨l0, hg0, hl0⟩ : ∃ l0, h10.mem.get b = some (.c l0 28 true) ∧ l0.length = 4 := by
              cases best with
              | none => exact ⟨zeV, hb510.get hb5l (by simp) hbest, rfl⟩
              | some x => exact ⟨adV x, hb510.get hb5l (by simp) hbest.1, rfl⟩
            rw [ln_w (sz := 4) hq10 rfl]
            refine sn_w (w := .a (adV a)) (cs := adV a) hg0 rfl rfl hl0 rfl fun h11 hg11 hb11 => ?_
            simp (disch := omega) only [F94_53, inc]
            exact ih (a + 1) h11 (some a) k t (by omega) (by omega) (by omega) (hb11.2.2 hbd10) (hb410.trans hb11) ⟨hg11, hfr⟩
          have skip : ∀ x, best = some x → F94_53 pw xx (Ok Try.prog (n + 5)) (fun v h' => Bd h' → K v h') (F94_35 pw xx (Ok Try.prog (n + 5)) (fun v h' => Bd h' → K v h') fuel) (.p r 0) (.p p 0) (.p z 0) (.p b 0) (.i .i64 rk) (.i .i64 tt) (.b true) (.i .u64 (numA a)) h10 := by
            intro x hx
            subst hx
            simp (disch := omega) only [F94_53, inc]
            exact ih (a + 1) h10 (some x) rk tt (by omega) (by omega) (by omega) hbd10 hb410 ⟨hb510.get hb5l (by simp) hbest.1, hbest.2⟩
          simp (disch := omega) only [ws, List.getElem?_cons_zero, List.getElem?_cons_succ]
          cases best with
          | none =>
            simp (disch := omega) only [ws, Option.isSome_none, Bool.not_false]
            exact upd
          | some x =>
            by_cases c1 : k < rk
            · simp (disch := omega) only [ws, Option.isSome_some, Bool.not_true, dec_t c1]
              exact upd
            · by_cases c2 : k = rk
              · by_cases c3 : t < tt
                · simp (disch := omega) only [ws, Option.isSome_some, Bool.not_true, dec_f c1, dec_t c2, dec_t c3]
                  exact upd
                · simp (disch := omega) only [ws, Option.isSome_some, Bool.not_true, dec_f c1, dec_t c2, dec_f c3]
                  exact skip x rfl
              · simp (disch := omega) only [ws, Option.isSome_some, Bool.not_true, dec_f c1, dec_f c2]
                exact skip x rfl
      · simp (disch := omega) only [ws, dec_f hle, F94_12]
        have hz5 := hb5.get hzl (by intro e; cases e; exact hzb rfl) hz4
        have fr : ∀ h6, But h5 h6 (some z) → But h h6 none := fun h6 hb6 => (hb04.over hb5 (.inr fun y e => by cases e; exact h0b)).over hb6 (.inr fun y e => by cases e; exact Nat.le_trans hb1.1 hz1)
        cases best with
        | none =>
          simp (disch := omega) only [ws, Option.isSome_none, Bool.not_false]
          refine bl_a (v := .a zeV) ?_ ?_
          · simp only [blW, ti, tt28, tt5, placesArr, cellsOfV, fillA]; rfl
          refine sn_w (w := .a zeV) (cs := zeV) hz5 rfl rfl rfl rfl fun h6 hg6 hb6 => ?_
          rw [ln_w (sz := 4) hg6 rfl]
          intro hbd6
          exact k1 h6 hbd6 (fr h6 hb6)
        | some x =>
          obtain ⟨b1, b2⟩ := hbest
          simp (disch := omega) only [ws, Option.isSome_some, Bool.not_true, F94_16, ln_w (sz := 4) b1 rfl]
          refine sn_w (w := .a (adV x)) (cs := adV x) hz5 rfl rfl rfl rfl fun h6 hg6 hb6 => ?_
          rw [ln_w (sz := 4) hg6 rfl]
          intro hbd6
          exact k2 h6 x hbd6 (fr h6 hb6) b2
  exact loop 100000 first h4 none 0 0 (by omega) (by omega) (by omega) hbd4 (But.refl _ _) hb4g
end Go.Proofs.Ytfkbofbdonmpfaa.Wb
