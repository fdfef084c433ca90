/- Who has which address: the walks of 'next', 'Offer' without a wish, 'End'. -/
import Derived.Test.YtfkbofbdonmpfaaPq6
set_option linter.unusedSimpArgs false
set_option linter.unusedVariables false
set_option linter.unusedSectionVars false
set_option linter.unnecessarySimpa false
set_option maxRecDepth 100000
namespace Go.Proofs.Ytfkbofbdonmpfaa.Wb
open Go.Am

def zeV : List V := [.i .u8 0, .i .u8 0, .i .u8 0, .i .u8 0]
theorem numz_ok {n : Nat} (hn : 1 ≤ n) {h : H} {K : V → H → Prop} (hk : ∀ h', Bd h' → But h h' none → K (.i .u32 0) h') : Ok Try.prog n 85 [.a zeV] h K := by
  obtain ⟨n, rfl⟩ := Nat.exists_eq_add_of_le' hn
  refine Ok.bd (K85 fun hbd => ?_)
  simp (disch := omega) only [F85]
  refine bx_a (cs := zeV) rfl fun b h1 hg hb _ _ => ?_
  rw [ln_w (sz := 4) hg rfl]
  have i0 : ∀ κ : V → Prop, pw.ix xx 28 (.a zeV) (.i .i64 0) κ = κ (.i .u8 0) := fun κ => by
    have e : ixW xx 28 (.a zeV) (.i .i64 0) = some (.i .u8 0) := by simp only [ixW, ti, tt28, tt5]; rfl
    simp only [pw, e, oP]
  have i1 : ∀ κ : V → Prop, pw.ix xx 28 (.a zeV) (.i .i64 (0 + 1)) κ = κ (.i .u8 0) := fun κ => by
    have e : ixW xx 28 (.a zeV) (.i .i64 (0 + 1)) = some (.i .u8 0) := by simp only [ixW, ti, tt28, tt5]; rfl
    simp only [pw, e, oP]
  have i2 : ∀ κ : V → Prop, pw.ix xx 28 (.a zeV) (.i .i64 (0 + 1 + 1)) κ = κ (.i .u8 0) := fun κ => by
    have e : ixW xx 28 (.a zeV) (.i .i64 (0 + 1 + 1)) = some (.i .u8 0) := by simp only [ixW, ti, tt28, tt5]; rfl
    simp only [pw, e, oP]
  have i3 : ∀ κ : V → Prop, pw.ix xx 28 (.a zeV) (.i .i64 (0 + 1 + 1 + 1)) κ = κ (.i .u8 0) := fun κ => by
    have e : ixW xx 28 (.a zeV) (.i .i64 (0 + 1 + 1 + 1)) = some (.i .u8 0) := by simp only [ixW, ti, tt28, tt5]; rfl
    simp only [pw, e, oP]
  rw [show (100000 : Nat) = 99999 + 1 from rfl, S85_11]
  simp (disch := omega) only [ws, dec_t, F85_16, i0, sl_8u, or_8u, F85_20]
  rw [show (99999 : Nat) = 99998 + 1 from rfl, S85_11]
  simp (disch := omega) only [ws, dec_t, F85_16, i1, sl_8u, or_8u, F85_20]
  rw [show (99998 : Nat) = 99997 + 1 from rfl, S85_11]
  simp (disch := omega) only [ws, dec_t, F85_16, i2, sl_8u, or_8u, F85_20]
  rw [show (99997 : Nat) = 99996 + 1 from rfl, S85_11]
  simp (disch := omega) only [ws, dec_t, F85_16, i3, sl_8u, or_8u, F85_20]
  rw [show (99996 : Nat) = 99995 + 1 from rfl, S85_11]
  simp (disch := omega) only [ws, dec_f, F85_5]
  intro hbd'
  exact hk h1 hbd' hb

/-- Nobody may have the address of noughts. -/
theorem freez_ok {n : Nat} (hn : 3 ≤ n) {r : Nat} {c : Option Nat} {first last now : Int} (h0 : 0 ≤ first) {es : List He} {h : H} {K : V → H → Prop} (ht : PL h r c first last now es) (hk : ∀ h', Bd h' → But h h' none → K (.b false) h') : Ok Try.prog n 93 [.p r 0, .a zeV] h K := by
  obtain ⟨n, rfl⟩ := Nat.exists_eq_add_of_le' hn
  refine Ok.bd (K93 (n := n + 2) fun hbd => ?_)
  simp only [F93]
  refine bx_a (cs := zeV) rfl fun q h1 hq hb1 _ _ => ?_
  rw [ln_w (sz := 4) hq rfl, cf_k]
  refine K95 (n := n + 1) fun hbd1 => ?_
  simp only [F95]
  refine bx_a (cs := zeV) rfl fun q2 h2 hq2 hb2 _ _ => ?_
  rw [ln_w (sz := 4) hq2 rfl, cf_k]
  refine numz_ok (by omega) fun h3 hbd3 hb3 => ?_
  have hb03 := (hb1.trans hb2).trans hb3
  obtain ⟨lv, mb, k, g1, g2, g3⟩ := ht.keep hbd hb03
  have r0 : ∀ κ : V → Prop, pw.l1 (.p r (0 + 0)) h3 κ = κ (.i .u32 (numA first)) := fun κ => l1_a g1 rfl
  have d1 : decide (numA first ≤ 0) = false := decide_eq_false (by simp only [numA]; omega)
  simp (disch := omega) only [ws, r0, d1]
  intro hbd'
  exact hk h3 hbd' hb03

def xH : He := ⟨⟨0, 0, 0⟩, false⟩
/-- Whether an address of the pool may be given; how soon. -/
def freeE (now : Int) (es : List He) (a : Int) : Bool := !(decide (0 ≤ fndP (isA a) es 0) && decide (now < (es.getD (fndP (isA a) es 0).toNat xH).l.un))
def rankE (m : Int) (es : List He) (a : Int) : Int × Int := if fndP (isA a) es 0 < 0 then (1, 0) else if (es.getD (fndP (isA a) es 0).toNat xH).l.m = m then (0, 0) else (2, (es.getD (fndP (isA a) es 0).toNat xH).l.un)

theorem free_ok {n : Nat} (hn : 4 ≤ n) {r : Nat} {c : Option Nat} {first last now a : Int} (hnow : 0 ≤ now) (ha : 0 ≤ a ∧ a ≤ 255) (hin : first ≤ a ∧ a ≤ last) {es : List He} (hl : es.length ≤ 10000) {h : H} {K : V → H → Prop} (ht : PL h r c first last now es) (hk : ∀ h', Bd h' → But h h' none → K (.b (freeE now es a)) h') : Ok Try.prog n 93 [.p r 0, .a (adV a)] h K := by
  obtain ⟨n, rfl⟩ := Nat.exists_eq_add_of_le' hn
  refine Ok.bd (K93 (n := n + 3) fun hbd => ?_)
  simp only [F93]
  refine bx_a (cs := adV a) rfl fun q h1 hq hb1 _ hq2 => ?_
  rw [ln_w (sz := 4) hq rfl, cf_k]
  refine has_ok (by omega) ha (ht.keep hbd hb1) fun h2 hbd2 hb2 => ?_
  have e1 : inP first last a = true := by simp [inP, hin.1, hin.2]
  have hq2' := hb2.get hq2 (by simp) hq
  have hql := Nat.lt_of_lt_of_le hq2 hb2.1
  simp (disch := omega) only [ws, e1, ln_w (sz := 4) hq2' rfl]
  have hb02 := hb1.trans hb2
  refine of_ok' (by omega) (ht.keep hbd hb02) hl fun h3 hbd3 hb3 => ?_
  have hb03 := hb02.trans hb3
  have hq3 := hb3.get hql (by simp) hq2'
  have fin : freeE now es a = true → pw.ln 4 (.p q 0) h3 fun v25 => Ok Try.prog (n + 3) 139 [.p r 0, v25] h3 fun v h' => (!match v with | .b x => x | _ => true) = true → Bd h' → K (.b true) h' := by
    intro hf
    rw [ln_w (sz := 4) hq3 rfl]
    refine barred_ok (by omega) hnow (ht.keep hbd hb03) fun h4 hbd4 hb4 => fun _ hb => ?_
    have := hk h4 hb (hb03.trans hb4)
    rw [hf] at this
    exact this
  by_cases hneg : fndP (isA a) es 0 < 0
  · have hf : freeE now es a = true := by
      unfold freeE
      rw [decide_eq_false (by omega), Bool.false_and]; rfl
    refine live_no (by omega) hneg fun _ => ?_
    simp (disch := omega) only [ws, Bool.not_false, ln_w (sz := 4) hq3 rfl]
    refine barred_ok (by omega) hnow (ht.keep hbd hb03) fun h4 hbd4 hb4 => ?_
    simp (disch := omega) only [ws, Bool.not_false]
    intro hb
    have := hk h4 hb (hb03.trans hb4)
    rw [hf] at this
    exact this
  · obtain ⟨j, hj, g1, g2, g3⟩ := fndP_some (show 0 ≤ fndP (isA a) es 0 by omega)
    rw [Nat.zero_add] at g1
    have hget : (es.getD (fndP (isA a) es 0).toNat xH) = es[j] := by
      rw [g1, Int.toNat_natCast, List.getD_eq_getElem?_getD, List.getElem?_eq_getElem hj]; rfl
    have hfe : freeE now es a = !decide (now < es[j].l.un) := by
      unfold freeE
      rw [hget, decide_eq_true (by omega), Bool.true_and]
    rw [g1]
    refine live_ok (by omega) hj (ht.keep hbd hb03) fun _ => ?_
    by_cases hlv : now < es[j].l.un
    · simp (disch := omega) only [ws, dec_t hlv, Bool.not_true]
      intro hb
      have := hk h3 hb hb03
      rw [hfe, decide_eq_true hlv] at this
      exact this
    · simp (disch := omega) only [ws, dec_f hlv, Bool.not_false, ln_w (sz := 4) hq3 rfl]
      refine barred_ok (by omega) hnow (ht.keep hbd hb03) fun h4 hbd4 hb4 => ?_
      simp (disch := omega) only [ws, Bool.not_false]
      intro hb
      have := hk h4 hb (hb03.trans hb4)
      rw [hfe, decide_eq_false hlv] at this
      exact this

theorem rank_ok {n : Nat} (hn : 4 ≤ n) {r : Nat} {c : Option Nat} {first last now a m : Int} {es : List He} (hl : es.length ≤ 10000) {h : H} {K : V → H → Prop} (ht : PL h r c first last now es) (hk : ∀ h', Bd h' → But h h' none → K (.t [.i .i64 (rankE m es a).1, .i .i64 (rankE m es a).2]) h') : Ok Try.prog n 146 [.p r 0, .a (maV m), .a (adV a)] h K := by
  obtain ⟨n, rfl⟩ := Nat.exists_eq_add_of_le' hn
  refine Ok.bd (K146 (n := n + 3) fun hbd => ?_)
  simp only [F146]
  refine bx_a (cs := maV m) rfl fun p h1 hp hb1 _ hp2 => ?_
  refine bx_a (cs := adV a) rfl fun q h2 hq hb2 _ hq2 => ?_
  have hb02 := hb1.trans hb2
  have hp' := hb2.get hp2 (by simp) hp
  rw [ln_w (sz := 4) hq rfl, cf_k]
  refine of_ok' (by omega) (ht.keep hbd hb02) hl fun h3 hbd3 hb3 => ?_
  have hb03 := hb02.trans hb3
  have hp3 := hb3.get (Nat.lt_of_lt_of_le hp2 hb2.1) (by simp) hp'
  by_cases hneg : fndP (isA a) es 0 < 0
  · simp (disch := omega) only [ws, dec_t hneg]
    intro hb
    have := hk h3 hb hb03
    rw [rankE, if_pos hneg] at this
    exact this
  · obtain ⟨j, hj, g1, g2, g3⟩ := fndP_some (show 0 ≤ fndP (isA a) es 0 by omega)
    rw [Nat.zero_add] at g1
    have hget : (es.getD (fndP (isA a) es 0).toNat xH) = es[j] := by
      rw [g1, Int.toNat_natCast, List.getD_eq_getElem?_getD, List.getElem?_eq_getElem hj]; rfl
    simp only [rankE, if_neg hneg, hget] at hk
    obtain ⟨lv, mb, kk, f1, f2, f3⟩ := ht.keep hbd hb03
    have r3 : ∀ κ : V → Prop, pw.l1 (.p r (0 + 3)) h3 κ = κ lv := fun κ => l1_a f1 rfl
    rw [g1]
    simp (disch := omega) only [ws, dec_f, r3]
    refine vece_at encH_len f2 (i := j) rfl hj fun b ha => ?_
    have l0 : ∀ κ : V → Prop, pw.ln 6 (.p b (j * 12 + 0 + 0)) h3 κ = κ (.a (maV es[j].l.m)) := fun κ => by
      rw [Nat.add_assoc, ha.getn (f := 0 + 0) (n := 6) (by omega)]; rfl
    simp (disch := omega) only [ws, l0, ln_w (sz := 6) hp3 rfl, eqm_ok]
    by_cases hm : es[j].l.m = m
    · simp (disch := omega) only [ws, dec_t hm]
      intro hb
      have := hk h3 hb hb03
      rw [if_pos hm] at this
      exact this
    · simp (disch := omega) only [ws, dec_f hm, F146_12, r3]
      refine vece_at encH_len f2 (i := j) rfl hj fun b2 ha2 => ?_
      have l10 : ∀ κ : V → Prop, pw.l1 (.p b2 (j * 12 + 0 + 10)) h3 κ = κ (.i .i64 es[j].l.un) := fun κ => by
        rw [Nat.add_assoc, ha2.get (f := 0 + 10) (x := .i .i64 es[j].l.un) rfl]
      simp (disch := omega) only [ws, l10]
      intro hb
      have := hk h3 hb hb03
      rw [if_neg hm] at this
      exact this

set_option maxHeartbeats 1000000 in
theorem next_ok {n : Nat} (hn : 5 ≤ n) {r : Nat} {c : Option Nat} {first last now m : Int} (hnow : 0 ≤ now) (hp : 0 ≤ first ∧ first ≤ last ∧ last ≤ 255) {es : List He} (hl : es.length ≤ 10000) {kt : Int × Int} (hrk : ∀ a, first ≤ a → a ≤ last → freeE now es a = true → rankE m es a = kt) {h : H} {K : V → H → Prop} (ht : PL h r c first last now es)
    (k1 : ∀ h', Bd h' → But h h' none → (∀ a, first ≤ a → a ≤ last → freeE now es a = false) → K (.t [.a zeV, .i .i64 7]) h')
    (k2 : ∀ h' a, Bd h' → But h h' none → first ≤ a → a ≤ last → freeE now es a = true → (∀ b, first ≤ b → b < a → freeE now es b = false) → K (.t [.a (adV a), .i .i64 0]) h') : Ok Try.prog n 94 [.p r 0, .a (maV m)] h K := by
  obtain ⟨n, rfl⟩ := Nat.exists_eq_add_of_le' hn
  refine Ok.bd (K94 (n := n + 4) fun hbd => ?_)
  simp only [F94]
  refine bx_a (cs := maV m) rfl fun p h1 hpm hb1 hp1 hp2 => ?_
  refine al_a tt28 fun z h2 hz hb2 hz1 hz2 => ?_
  refine bl_a (v := .a zeV) ?_ ?_
  · simp only [blW, ti, tt28, tt5, placesArr, cellsOfV, fillA]; rfl
  refine al_a tt28 fun b h3 hbb hb3 hbb1 hbb2 => ?_
  refine sn_w (w := .a zeV) (cs := zeV) hbb rfl rfl rfl rfl fun h4 hb4g hb4 => ?_
  have hb24 : But h2 h4 none := hb3.over hb4 (.inr fun r e => by cases e; exact hbb1)
  have hb04 : But h h4 none := (hb1.trans hb2).trans hb24
  have hbd4 := hb04.2.2 hbd
  have ht4 := ht.keep hbd hb04
  have hz4 := hb24.get hz2 (by simp) hz
  have hp4 := (hb2.trans hb24).get hp2 (by simp) hpm
  have hzl : z < h4.next := Nat.lt_of_lt_of_le hz2 hb24.1
  have hpl : p < h4.next := Nat.lt_of_lt_of_le hp2 (hb2.trans hb24).1
  have hbl : b < h4.next := Nat.lt_of_lt_of_le hbb2 hb4.1
  have hzb : z ≠ b := by omega
  have hpb : p ≠ b := by have := hb2.1; omega
  have hrb : r < h2.next := Nat.lt_of_lt_of_le (ht.lt hbd).1 (hb1.trans hb2).1
  have hcb : ∀ q, c = some q → q < h2.next := fun q hq => Nat.lt_of_lt_of_le ((ht.lt hbd).2 q hq) (hb1.trans hb2).1
  -- the table in a heap where the best one's box alone was laid
  have htb : ∀ h5, But h4 h5 (some b) → PL h5 r c first last now es := fun h5 hb5 => by
    obtain ⟨lv, mb, kk, f1, f2, f3, f4, f5, f6, f7⟩ := ht.keep hbd (hb1.trans hb2)
    have x : But h2 h5 none := hb24.over hb5 (.inr fun y e => by cases e; exact hbb1)
    exact ⟨lv, mb, kk, x.get hrb (by simp) f1, f2.keep (f2.lt ((hb1.trans hb2).2.2 hbd)) x (.inr rfl), f3, f4, x.get (((hb1.trans hb2).2.2 hbd) _ _ f5) (by simp) f5, f6, f7⟩
  have h0b : h.next ≤ b := Nat.le_trans (hb1.trans hb2).1 hbb1
  obtain ⟨lv, mb, kk, f1, f2, f3⟩ := id ht4
  have r0 : ∀ κ : V → Prop, pw.l1 (.p r (0 + 0)) h4 κ = κ (.i .u32 (numA first)) := fun κ => l1_a f1 rfl
  have cu : ∀ (a : Int) (ha : 0 ≤ a ∧ a ≤ 255) (κ : V → Prop), pw.ci xx 59 190 .u64 (.i .u32 (numA a)) κ = κ (.i .u64 (numA a)) := fun a ha κ => ci_u64 (by simp only [numA]; omega)
  have cd : ∀ (a : Int) (ha : 0 ≤ a ∧ a ≤ 255) (κ : V → Prop), pw.ci xx 190 59 .u32 (.i .u64 (numA a)) κ = κ (.i .u32 (numA a)) := fun a ha κ => ci_u32 (by simp only [numA]; omega)
  simp (disch := omega) only [ws, r0, cu first (by omega)]
  have loop : ∀ (fuel : Nat) (a : Int) (h5 : H) (best : Option Int), last + 1 < fuel + a → first ≤ a → a ≤ last + 1 → Bd h5 → But h4 h5 (some b) →
      (match best with
        | none => h5.mem.get b = some (.c zeV 28 true) ∧ ∀ y, first ≤ y → y < a → freeE now es y = false
        | some x => h5.mem.get b = some (.c (adV x) 28 true) ∧ first ≤ x ∧ x ≤ last ∧ freeE now es x = true ∧ ∀ y, first ≤ y → y < x → freeE now es y = false) →
      F94_35 pw xx (Ok Try.prog (n + 4)) (fun v h' => Bd h' → K v h') fuel (.p r 0) (.p p 0) (.p z 0) (.p b 0) (.i .i64 (if best.isSome then kt.1 else 0)) (.i .i64 (if best.isSome then kt.2 else 0)) (.b best.isSome) (.i .u64 (numA a)) h5 := by
    intro fuel
    induction fuel with
    | zero => intro a h5 best a1 a2 a3; omega
    | succ fuel ih =>
      intro a h5 best a1 a2 a3 hbd5 hb5 hbest
      rw [S94_35]
      have ht5 := htb h5 hb5
      obtain ⟨lv, mb, kk, f1, f2, f3⟩ := id ht5
      have r1 : ∀ κ : V → Prop, pw.l1 (.p r (0 + 1)) h5 κ = κ (.i .u32 (numA last)) := fun κ => l1_a f1 rfl
      have dl : decide (numA a ≤ numA last) = decide (a ≤ last) := by rw [decide_eq_decide]; simp only [numA]; omega
      have inc : ∀ κ : V → Prop, pw.ad xx 190 (.i .u64 (numA a)) (.i .u64 1) κ = κ (.i .u64 (numA (a + 1))) := fun κ => by
        rw [ad_u64 (by simp only [numA]; omega)]
        congr 2
        simp only [numA]; omega
      simp (disch := omega) only [ws, r1, cu last (by omega), dl]
      by_cases hle : a ≤ last
      · simp (disch := omega) only [ws, dec_t hle, F94_44, cd a (by omega)]
        refine of_ok (by omega) (by omega) fun h6 hbd6 hb6 => ?_
        refine al_a tt28 fun q h7 hq hb7 hq1 hq2 => ?_
        refine sn_w (w := .a (adV a)) (cs := adV a) hq rfl rfl rfl rfl fun h8 hq8 hb8 => ?_
        rw [ln_w (sz := 4) hq8 rfl]
        have hb58 : But h5 h8 none := (hb6.trans hb7).over hb8 (.inr fun r e => by cases e; exact Nat.le_trans hb6.1 hq1)
        have hb48 : But h4 h8 (some b) := hb5.trans (hb58.none _)
        have hql : q < h8.next := Nat.lt_of_lt_of_le hq2 hb8.1
        refine free_ok (by omega) hnow (by omega) ⟨a2, hle⟩ hl (htb h8 hb48) fun h9 hbd9 hb9 => ?_
        have hb49 : But h4 h9 (some b) := hb48.trans (hb9.none _)
        have hb59 := hb58.trans hb9
        have hb5l : b < h5.next := Nat.lt_of_lt_of_le hbl hb5.1
        cases hf : freeE now es a with
        | false =>
          simp (disch := omega) only [ws, Bool.not_false, F94_53, inc]
          refine ih (a + 1) h9 best (by omega) (by omega) (by omega) hbd9 hb49 ?_
          cases best with
          | none =>
            obtain ⟨b1, b2⟩ := hbest
            refine ⟨hb59.get hb5l (by simp) b1, fun y y1 y2 => ?_⟩
            by_cases hy : y = a
            · rw [hy]; exact hf
            · exact b2 y y1 (by omega)
          | some x =>
            obtain ⟨b1, b2⟩ := hbest
            exact ⟨hb59.get hb5l (by simp) b1, b2⟩
        | true =>
          simp (disch := omega) only [ws, Bool.not_true, F94_70]
          have hp9 := hb49.get hpl (by intro e; cases e; exact hpb rfl) hp4
          have hq9 := hb9.get hql (by simp) hq8
          simp (disch := omega) only [ln_w (sz := 6) hp9 rfl, ln_w (sz := 4) hq9 rfl, cf_k]
          refine rank_ok (by omega) hl (htb h9 hb49) fun h10 hbd10 hb10 => ?_
          rw [hrk a a2 hle hf]
          have hb410 : But h4 h10 (some b) := hb49.trans (hb10.none _)
          have hb510 := hb59.trans hb10
          simp (disch := omega) only [ws, List.getElem?_cons_zero, List.getElem?_cons_succ]
          cases best with
          | none =>
            obtain ⟨b1, b2⟩ := hbest
            have hq10 := hb10.get (Nat.lt_of_lt_of_le hql hb9.1) (by simp) hq9
            have hb10g := hb510.get hb5l (by simp) b1
            simp (disch := omega) only [ws, Option.isSome_none, Bool.not_false, ln_w (sz := 4) hq10 rfl]
            refine sn_w (w := .a (adV a)) (cs := adV a) hb10g rfl rfl rfl rfl fun h11 hg11 hb11 => ?_
            simp (disch := omega) only [F94_53, inc]
            exact ih (a + 1) h11 (some a) (by omega) (by omega) (by omega) (hb11.2.2 hbd10) (hb410.trans hb11) ⟨hg11, a2, hle, hf, b2⟩
          | some x =>
            obtain ⟨b1, b2⟩ := hbest
            simp (disch := omega) only [ws, Option.isSome_some, if_true, Bool.not_true, dec_f (Int.lt_irrefl _), decide_true, F94_53, inc]
            exact ih (a + 1) h10 (some x) (by omega) (by omega) (by omega) hbd10 hb410 ⟨hb510.get hb5l (by simp) b1, b2⟩
      · simp (disch := omega) only [ws, dec_f hle, F94_12]
        have hz5 := hb5.get hzl (by intro e; cases e; exact hzb rfl) hz4
        have fr : ∀ h6, But h5 h6 (some z) → But h h6 none := fun h6 hb6 => (hb04.over hb5 (.inr fun y e => by cases e; exact h0b)).over hb6 (.inr fun y e => by cases e; exact Nat.le_trans hb1.1 hz1)
        cases best with
        | none =>
          obtain ⟨b1, b2⟩ := hbest
          simp (disch := omega) only [ws, Option.isSome_none, Bool.not_false]
          refine bl_a (v := .a zeV) ?_ ?_
          · simp only [blW, ti, tt28, tt5, placesArr, cellsOfV, fillA]; rfl
          refine sn_w (w := .a zeV) (cs := zeV) hz5 rfl rfl rfl rfl fun h6 hg6 hb6 => ?_
          rw [ln_w (sz := 4) hg6 rfl]
          intro hbd6
          exact k1 h6 hbd6 (fr h6 hb6) fun y y1 y2 => b2 y y1 (by omega)
        | some x =>
          obtain ⟨b1, b2, b3, b4, b5⟩ := hbest
          simp (disch := omega) only [ws, Option.isSome_some, Bool.not_true, F94_16, ln_w (sz := 4) b1 rfl]
          refine sn_w (w := .a (adV x)) (cs := adV x) hz5 rfl rfl rfl rfl fun h6 hg6 hb6 => ?_
          rw [ln_w (sz := 4) hg6 rfl]
          intro hbd6
          exact k2 h6 x hbd6 (fr h6 hb6) b2 b3 b4 b5
  exact loop 100000 first h4 none (by omega) (by omega) (by omega) hbd4 (But.refl _ _) ⟨hb4g, fun y y1 y2 => by omega⟩
end Go.Proofs.Ytfkbofbdonmpfaa.Wb
