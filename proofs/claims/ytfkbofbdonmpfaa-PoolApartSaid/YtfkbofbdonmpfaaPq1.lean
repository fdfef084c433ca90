/- Who has which address: the walks of the small functions. -/
import Derived.Test.YtfkbofbdonmpfaaWq1
import Derived.Test.YtfkbofbdonmpfaaM4
set_option linter.unusedSimpArgs false
set_option linter.unusedVariables false
set_option linter.unusedSectionVars false
set_option linter.unnecessarySimpa false
set_option maxRecDepth 100000
namespace Go.Proofs.Ytfkbofbdonmpfaa.Wb
open Go.Am

noncomputable abbrev xx : X := mkX Try.prog

/-- A lease, a held lease: the last bytes of the device's and of the address, till when, whether it was told. -/
structure Le where
  m : Int
  a : Int
  un : Int
  deriving DecidableEq
structure He where
  l : Le
  told : Bool
  deriving DecidableEq

def adV (a : Int) : List V := [.i .u8 10, .i .u8 0, .i .u8 0, .i .u8 a]
def maV (m : Int) : List V := [.i .u8 2, .i .u8 0, .i .u8 0, .i .u8 0, .i .u8 0, .i .u8 m]
def encL (e : Le) : List V := [.i .u8 2, .i .u8 0, .i .u8 0, .i .u8 0, .i .u8 0, .i .u8 e.m, .i .u8 10, .i .u8 0, .i .u8 0, .i .u8 e.a, .i .i64 e.un]
def encH (e : He) : List V := [.i .u8 2, .i .u8 0, .i .u8 0, .i .u8 0, .i .u8 0, .i .u8 e.l.m, .i .u8 10, .i .u8 0, .i .u8 0, .i .u8 e.l.a, .i .i64 e.l.un, .b e.told]
theorem encL_len (e : Le) : (encL e).length = 11 := rfl
theorem encL_one (e : Le) : (encL e).all oneV = true := rfl
theorem encH_len (e : He) : (encH e).length = 12 := rfl
theorem encH_one (e : He) : (encH e).all oneV = true := rfl

theorem eqa_ok {a b : Int} {κ : V → Prop} : pw.eq xx 28 (.a (adV a)) (.a (adV b)) κ = κ (.b (decide (a = b))) := by
  simp only [adV, pw, bin, ti, tt28, eqOp, eqF, eqK, if_true, oP]
  congr 2
  simp
theorem nea_ok {a b : Int} {κ : V → Prop} : pw.ne xx 28 (.a (adV a)) (.a (adV b)) κ = κ (.b (!decide (a = b))) := by
  simp only [adV, pw, bin, ti, tt28, eqOp, eqF, eqK, if_true, oP]
  congr 2
  simp
theorem eqm_ok {a b : Int} {κ : V → Prop} : pw.eq xx 53 (.a (maV a)) (.a (maV b)) κ = κ (.b (decide (a = b))) := by
  simp only [maV, pw, bin, ti, tt53, eqOp, eqF, eqK, if_true, oP]
  congr 2
  simp
theorem nem_ok {a b : Int} {κ : V → Prop} : pw.ne xx 53 (.a (maV a)) (.a (maV b)) κ = κ (.b (!decide (a = b))) := by
  simp only [maV, pw, bin, ti, tt53, eqOp, eqF, eqK, if_true, oP]
  congr 2
  simp

theorem or_8u {x : X} {t : TypeId} {a b : Int} {κ : V → Prop} (h : 0 ≤ a ∧ a ≤ 16777215 ∧ 0 ≤ b ∧ b ≤ 255) : pw.or x t (.i .u32 (a * 256)) (.i .u32 b) κ = κ (.i .u32 (a * 256 + b)) := by
  obtain ⟨h1, h2, h3, h4⟩ := h
  obtain ⟨a, rfl⟩ := Int.eq_ofNat_of_zero_le h1
  obtain ⟨b, rfl⟩ := Int.eq_ofNat_of_zero_le h3
  rw [or_i, BitVec.toNat_or, BitVec.toNat_ofInt, BitVec.toNat_ofInt]
  have e1 : ((((a : Int) * 256) % ((2 ^ IntKind.u32.bits : Nat) : Int)).toNat) = a * 256 := by
    rw [Int.emod_eq_of_lt (by omega) (by simp [IntKind.bits]; omega)]; omega
  have e2 : (((b : Int) % ((2 ^ IntKind.u32.bits : Nat) : Int)).toNat) = b := by
    rw [Int.emod_eq_of_lt (by omega) (by simp [IntKind.bits]; omega)]; omega
  rw [e1, e2, show a * 256 = 2 ^ 8 * a by omega, ← Nat.two_pow_add_eq_or_of_lt (by omega), wrap_u32', Int.emod_eq_of_lt (by omega) (by omega)]
  congr 2; omega
theorem sl_8u {x : X} {t : TypeId} {k' : IntKind} {m : Int} {κ : V → Prop} (h : 0 ≤ m ∧ m ≤ 16777215) : pw.sl x t (.i .u32 m) (.i k' 8) κ = κ (.i .u32 (m * 256)) := by
  rw [show (8 : Int) = ((8 : Nat) : Int) from rfl, sl_k 8 (by decide), show (2 : Int) ^ 8 = 256 from rfl, wrap_u32', Int.emod_eq_of_lt (by omega) (by omega)]
theorem ix_a {x : X} {t e : TypeId} {i j : TI} {n : Nat} (ht : x.tt.get t = some i) (hk : i.k = .arr n e) {l : List V} {m : Int} {v : V} {k : IntKind} {κ : V → Prop} (hv : ixW x t (.a l) (.i k m) = some v) : pw.ix x t (.a l) (.i k m) κ = κ v := by
  show oP (ixW x t (.a l) (.i k m)) κ = _
  rw [hv, oP_some]

/-- An address's number. -/
def numA (a : Int) : Int := 167772160 + a
theorem num_ok {n : Nat} (hn : 1 ≤ n) {a : Int} (ha : 0 ≤ a ∧ a ≤ 255) {h : H} {K : V → H → Prop} (hk : ∀ h', Bd h' → But h h' none → K (.i .u32 (numA a)) h') : Ok Try.prog n 85 [.a (adV a)] h K := by
  obtain ⟨n, rfl⟩ := Nat.exists_eq_add_of_le' hn
  refine Ok.bd (K85 fun hbd => ?_)
  simp (disch := omega) only [F85]
  refine bx_a (cs := adV a) rfl fun b h1 hg hb _ _ => ?_
  rw [ln_w (sz := 4) hg rfl]
  have i0 : ∀ κ : V → Prop, pw.ix xx 28 (.a (adV a)) (.i .i64 0) κ = κ (.i .u8 10) := fun κ => by
    have e : ixW xx 28 (.a (adV a)) (.i .i64 0) = some (.i .u8 10) := by simp only [ixW, ti, tt28, tt5]; rfl
    simp only [pw, e, oP]
  have i1 : ∀ κ : V → Prop, pw.ix xx 28 (.a (adV a)) (.i .i64 (0 + 1)) κ = κ (.i .u8 0) := fun κ => by
    have e : ixW xx 28 (.a (adV a)) (.i .i64 (0 + 1)) = some (.i .u8 0) := by simp only [ixW, ti, tt28, tt5]; rfl
    simp only [pw, e, oP]
  have i2 : ∀ κ : V → Prop, pw.ix xx 28 (.a (adV a)) (.i .i64 (0 + 1 + 1)) κ = κ (.i .u8 0) := fun κ => by
    have e : ixW xx 28 (.a (adV a)) (.i .i64 (0 + 1 + 1)) = some (.i .u8 0) := by simp only [ixW, ti, tt28, tt5]; rfl
    simp only [pw, e, oP]
  have i3 : ∀ κ : V → Prop, pw.ix xx 28 (.a (adV a)) (.i .i64 (0 + 1 + 1 + 1)) κ = κ (.i .u8 a) := fun κ => by
    have e : ixW xx 28 (.a (adV a)) (.i .i64 (0 + 1 + 1 + 1)) = some (.i .u8 a) := by simp only [ixW, ti, tt28, tt5]; rfl
    simp only [pw, e, oP]
  rw [show (100000 : Nat) = 99999 + 1 from rfl, S85_11]
  simp (disch := omega) only [ws, dec_t, F85_16, i0, sl_8u, or_8u, F85_20]
  rw [show (99999 : Nat) = 99998 + 1 from rfl, S85_11]
  simp (disch := omega) only [ws, dec_t, F85_16, i1, sl_8u, or_8u, F85_20]
  rw [show (99998 : Nat) = 99997 + 1 from rfl, S85_11]
  simp (disch := omega) only [ws, dec_t, F85_16, i2, sl_8u, or_8u, F85_20]
  rw [show (99997 : Nat) = 99996 + 1 from rfl, S85_11]
  simp (disch := omega) only [ws, dec_t, F85_16, i3, sl_8u, or_8u, F85_20]
  rw [show (99996 : Nat) = 99995 + 1 from rfl, S85_11]
  simp (disch := omega) only [ws, dec_f, F85_5]
  intro hbd'
  have := hk h1 hbd' hb
  rw [numA] at this
  exact this

theorem of_ok {n : Nat} (hn : 1 ≤ n) {a : Int} (ha : 0 ≤ a ∧ a ≤ 255) {h : H} {K : V → H → Prop} (hk : ∀ h', Bd h' → But h h' none → K (.a (adV a)) h') : Ok Try.prog n 145 [.i .u32 (numA a)] h K := by
  obtain ⟨n, rfl⟩ := Nat.exists_eq_add_of_le' hn
  refine Ok.bd (K145 fun hbd => ?_)
  have s24 : ∀ κ : V → Prop, pw.sr xx 59 (.i .u32 (numA a)) (.i .u64 24) κ = κ (.i .u32 10) := fun κ => by
    rw [show (24 : Int) = ((24 : Nat) : Int) from rfl, sr_k 24 (by decide)]; congr 2; simp only [numA]; omega
  have s16 : ∀ κ : V → Prop, pw.sr xx 59 (.i .u32 (numA a)) (.i .u64 16) κ = κ (.i .u32 2560) := fun κ => by
    rw [show (16 : Int) = ((16 : Nat) : Int) from rfl, sr_k 16 (by decide)]; congr 2; simp only [numA]; omega
  have s8 : ∀ κ : V → Prop, pw.sr xx 59 (.i .u32 (numA a)) (.i .u64 8) κ = κ (.i .u32 655360) := fun κ => by
    rw [show (8 : Int) = ((8 : Nat) : Int) from rfl, sr_k 8 (by decide)]; congr 2; simp only [numA]; omega
  have c0 : ∀ κ : V → Prop, pw.ci xx 59 5 .u8 (.i .u32 (numA a)) κ = κ (.i .u8 a) := fun κ => by
    rw [ci_u8m]; congr 2; simp only [numA]; omega
  simp (disch := omega) only [F145]
  refine al_a tt28 fun b h1 hg hb _ _ => ?_
  simp (disch := omega) only [s24, s16, s8, c0, ci_u8m, show (10 : Int) % 256 = 10 from rfl, show (2560 : Int) % 256 = 0 from rfl, show (655360 : Int) % 256 = 0 from rfl]
  refine bl_a (v := .a (adV a)) ?_ ?_
  · simp only [blW, ti, tt28, tt5, placesArr, cellsOfV, fillA]; rfl
  refine sn_w (w := .a (adV a)) (cs := adV a) hg rfl rfl rfl rfl fun h2 hg2 hb2 => ?_
  rw [ln_w (sz := 4) hg2 rfl]
  intro hbd'
  refine hk h2 hbd' (hb.over hb2 (.inr fun r e => ?_))
  cases e; assumption

/-- The law's own 'at' and 'mac'. -/
theorem at_ok {n : Nat} (hn : 1 ≤ n) {a : Int} (ha : 0 ≤ a ∧ a ≤ 255) {h : H} {K : V → H → Prop} (hk : ∀ h', Bd h' → But h h' none → K (.a (adV a)) h') : Ok Try.prog n 41 [.i .i64 a] h K := by
  obtain ⟨n, rfl⟩ := Nat.exists_eq_add_of_le' hn
  refine Ok.bd (K41 fun hbd => ?_)
  simp (disch := omega) only [F41]
  refine al_a tt28 fun b h1 hg hb _ _ => ?_
  simp (disch := omega) only [ws]
  refine bl_a (v := .a (adV a)) ?_ ?_
  · simp only [blW, ti, tt28, tt5, placesArr, cellsOfV, fillA]; rfl
  refine sn_w (w := .a (adV a)) (cs := adV a) hg rfl rfl rfl rfl fun h2 hg2 hb2 => ?_
  rw [ln_w (sz := 4) hg2 rfl]
  intro hbd'
  refine hk h2 hbd' (hb.over hb2 (.inr fun r e => ?_))
  cases e; assumption
theorem mac_ok {n : Nat} (hn : 1 ≤ n) {m : Int} (ha : 0 ≤ m ∧ m ≤ 255) {h : H} {K : V → H → Prop} (hk : ∀ h', Bd h' → But h h' none → K (.a (maV m)) h') : Ok Try.prog n 43 [.i .i64 m] h K := by
  obtain ⟨n, rfl⟩ := Nat.exists_eq_add_of_le' hn
  refine Ok.bd (K43 fun hbd => ?_)
  simp (disch := omega) only [F43]
  refine al_a tt53 fun b h1 hg hb _ _ => ?_
  simp (disch := omega) only [ws]
  refine bl_a (v := .a (maV m)) ?_ ?_
  · simp only [blW, ti, tt53, tt5, placesArr, cellsOfV, fillA]; rfl
  refine sn_w (w := .a (maV m)) (cs := maV m) hg rfl rfl rfl rfl fun h2 hg2 hb2 => ?_
  rw [ln_w (sz := 6) hg2 rfl]
  intro hbd'
  refine hk h2 hbd' (hb.over hb2 (.inr fun r e => ?_))
  cases e; assumption

theorem secs_ok {n : Nat} (hn : 1 ≤ n) {s : Int} {h : H} {K : V → H → Prop} (hk : Bd h → K (.b (decide (1 ≤ s) && decide (s ≤ 1000000000))) h) : Ok Try.prog n 88 [.i .i64 s] h K := by
  obtain ⟨n, rfl⟩ := Nat.exists_eq_add_of_le' hn
  refine Ok.bd (K88 fun hbd => ?_)
  by_cases h1 : 1 ≤ s
  · simp (disch := omega) only [F88, ws, dec_t h1]
    rw [decide_eq_true h1, Bool.true_and] at hk
    exact hk
  · simp (disch := omega) only [F88, ws, dec_f h1]
    rw [decide_eq_false h1, Bool.false_and] at hk
    exact hk

theorem h_index_loop {n : Nat} {h0 : H} (hbd0 : Bd h0) {v clo : V} {es : List He} {pr : He → Bool} (hv : VecE h0 v 148 12 encH es) (hl : es.length ≤ 10000) {c : Option Nat} (hc : ClP Try.prog n h0 c clo encH es pr) {K : V → H → Prop} (hk : ∀ h', Bd h' → But h0 h' none → K (.i .i64 (fndP pr es 0)) h') :
    ∀ (fuel k : Nat) (h : H), es.length < fuel + k → k ≤ es.length → Bd h → But h0 h none → fndP pr (es.drop k) k = fndP pr es 0 →
    F140_9 pw xx (Ok Try.prog n) K fuel v clo (.i .i64 (es.length : Nat)) (.i .i64 (k : Nat)) h := by
  intro fuel
  induction fuel with
  | zero => intro k h h1 h2; omega
  | succ fuel ih =>
    intro k h h1 h2 hbd hb hf
    rw [S140_9]
    by_cases hlt : k < es.length
    · simp (disch := omega) only [ws, dec_t, F140_15]
      refine vece_at encH_len (hv.keep (hv.lt hbd0) hb (.inr rfl)) rfl hlt fun b ha => ?_
      rw [ha.all]
      have hd : es.drop k = es[k] :: es.drop (k + 1) := List.drop_eq_getElem_cons hlt
      rw [hd] at hf
      simp only [fndP] at hf
      refine hc.call (List.getElem_mem hlt) hbd (hb.none c) fun h' hbd' hb' => ?_
      cases he : pr es[k] with
      | true =>
        simp (disch := omega) only [ws]
        rw [if_pos he] at hf
        have := hk h' hbd' (hb.trans hb')
        rw [← hf] at this
        exact this
      | false =>
        simp (disch := omega) only [ws, F140_20]
        rw [if_neg (by rw [he]; simp)] at hf
        exact ih (k + 1) h' (by omega) (by omega) hbd' (hb.trans hb') hf
    · simp (disch := omega) only [ws, dec_f, F140_4]
      rw [List.drop_eq_nil_of_le (by omega)] at hf
      have := hk h hbd hb
      rw [← hf] at this
      exact this

theorem h_index_ok {n : Nat} (hn : 1 ≤ n) {h0 : H} {v clo : V} {es : List He} {pr : He → Bool} (hv : VecE h0 v 148 12 encH es) (hl : es.length ≤ 10000) {c : Option Nat} (hc : ClP Try.prog (n - 1) h0 c clo encH es pr) {K : V → H → Prop} (hk : ∀ h', Bd h' → But h0 h' none → K (.i .i64 (fndP pr es 0)) h') : Ok Try.prog n 140 [v, clo] h0 K := by
  obtain ⟨n, rfl⟩ := Nat.exists_eq_add_of_le' hn
  refine K140 fun hbd0 => ?_
  simp (disch := omega) only [F140, vece_len tt142 rfl hv]
  exact h_index_loop hbd0 hv hl hc hk 100000 0 h0 (by omega) (by omega) hbd0 (But.refl _ _) rfl
end Go.Proofs.Ytfkbofbdonmpfaa.Wb
