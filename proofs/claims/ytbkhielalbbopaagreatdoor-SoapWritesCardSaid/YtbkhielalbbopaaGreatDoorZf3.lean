/- SoapWrites: the walk of the law. -/
import Derived.Test.YtbkhielalbbopaaGreatDoorZf2
set_option linter.unusedSimpArgs false
set_option linter.unusedVariables false
set_option linter.unusedSectionVars false
set_option linter.unnecessarySimpa false
set_option maxRecDepth 100000
namespace Go.Proofs.YtbkhielalbbopaaGreatDoor.Wb
open Go Go.Am Go.Am.Xm

/-- A slice of texts. -/
def StrsAt (h : H) (v : V) (ss : List Bs) : Prop := match v with
  | .sl r o n c _ => n = ss.length ∧ n ≤ c ∧ ∃ l t w, h.mem.get r = some (.c l t w) ∧ o + n ≤ l.length ∧ r < h.next ∧ ∀ i, i < ss.length → l[o + i]? = some (.s (ss.getD i []))
  | .ns => ss = []
  | .se _ _ _ => ss = []
  | .ze _ => ss = []
  | _ => False
theorem strs_len {h : H} {v : V} {ss : List Bs} (hb : StrsAt h v ss) {κ : V → Prop} : pw.ls (mkX Tryz.prog) 59 v κ = κ (.i .i64 ss.length) := by
  unfold StrsAt at hb
  split at hb
  · obtain ⟨rfl, _⟩ := hb
    exact ls_sl tt59 rfl
  all_goals first | (subst hb; simp only [pw, ti_some _ tt59, lenP, oP]; rfl) | exact hb.elim
theorem strs_get {h : H} {v : V} {ss : List Bs} (hb : StrsAt h v ss) {i : Nat} (hi : i < ss.length) {k : IntKind} {κ : V → Prop} : (pw.is 1 v (.i k (i : Int)) fun a => pw.l1 a h κ) = κ (.s (ss.getD i [])) := by
  unfold StrsAt at hb
  split at hb
  · rename_i r o n c e
    obtain ⟨rfl, _, l, t, w, hg, _, _, hl⟩ := hb
    rw [is_sl1 (by omega), l1_p, hg, cellB_some, Int.toNat_natCast, hl i hi, oP_some]
  all_goals first | (subst hb; simp at hi) | exact hb.elim
theorem StrsAt.keep {h h' : H} {v : V} {ss : List Bs} (hb : StrsAt h v ss) (hk : But h h' none) : StrsAt h' v ss := by
  cases v with
  | sl r o n c e =>
    obtain ⟨h1, h1', l, t, w, h2, h3, h4, h5⟩ := hb
    exact ⟨h1, h1', l, t, w, hk.get h4 (by simp) h2, h3, Nat.lt_of_lt_of_le h4 hk.1, h5⟩
  | _ => exact hb

def kb (i : Nat) : UInt8 := UInt8.ofNat (97 + i)
theorem kb_nat {i : Nat} (h : i < 26) : (kb i).toNat = 97 + i := by
  unfold kb
  rw [UInt8.toNat_ofNat']
  omega
theorem kb_az {i : Nat} (h : i < 26) : azB (kb i) = true := by
  unfold azB
  rw [kb_nat h]
  simp; omega
theorem kb_inj {i j : Nat} (hi : i < 26) (hj : j < 26) (e : kb i = kb j) : i = j := by
  have := congrArg UInt8.toNat e
  rw [kb_nat hi, kb_nat hj] at this
  omega
theorem kb_ad {i : Nat} (hi : i < 26) {κ : V → Prop} : (pw.ad (mkX Tryz.prog) 3 (.i .i64 97) (.i .i64 (i : Int)) fun v => pw.ci (mkX Tryz.prog) 3 5 .u8 v κ) = κ (.i .u8 ((kb i).toNat : Int)) := by
  rw [ad_64 (by omega), ci_u8 (by omega), kb_nat hi]
  congr 2
theorem lastB_no {l : Bs} {c : UInt8} (h : c ∉ l) : ∀ i, lastB l c i = -1
  | 0 => rfl
  | i + 1 => by
    rw [lastB, if_neg (fun e => h (List.mem_of_getElem? e)), lastB_no h i]
theorem plainS_no {l : Bs} (h : (58 : UInt8) ∉ l) : plainS l = l := by
  unfold plainS
  rw [lastB_no h]
  rfl
theorem NMo {i : Nat} (h : i < 26) : NM [111, kb i] [111, kb i] := by
  have hz := kb_az h
  refine ⟨fun c hc => ?_, ⟨111, [kb i], rfl, by decide, by decide, by decide⟩, by show decide (0 ≤ Lib.indexByte mrS 111) = false; decide, plainS_no fun hm => ?_⟩
  · simp at hc
    rcases hc with rfl | rfl
    · decide
    · exact (az_nm hz).1
  · simp at hm
    exact az_ne hz (by decide) hm.symm

def agsF : Nat → List Bs → List Ag
  | _, [] => []
  | i, s :: ss => ([111, kb i], s) :: agsF (i + 1) ss
theorem agsF_len : ∀ (i : Nat) (ss : List Bs), (agsF i ss).length = ss.length
  | _, [] => rfl
  | i, s :: ss => by rw [agsF, List.length_cons, agsF_len, List.length_cons]
theorem agsF_app : ∀ (i : Nat) (a b : List Bs), agsF i (a ++ b) = agsF i a ++ agsF (i + a.length) b
  | i, [], b => rfl
  | i, s :: a, b => by
    rw [List.cons_append, agsF, agsF, agsF_app (i + 1) a b, List.length_cons, List.cons_append, show i + 1 + a.length = i + (a.length + 1) by omega]
theorem agsF_get : ∀ (i : Nat) (ss : List Bs) (j : Nat) (hj : j < (agsF i ss).length), (agsF i ss)[j] = ([111, kb (i + j)], ss.getD j [])
  | i, [], j, hj => by simp [agsF] at hj
  | i, s :: ss, 0, _ => rfl
  | i, s :: ss, j + 1, hj => by
    have := agsF_get (i + 1) ss j (by simpa [agsF] using hj)
    show (agsF (i + 1) ss)[j]'(by simpa [agsF] using hj) = _
    rw [this, show i + 1 + j = i + (j + 1) by omega]
    rfl
theorem agsF_mem {ss : List Bs} {a : Ag} (h : a ∈ agsF 0 ss) : ∃ j, j < ss.length ∧ a = ([111, kb j], ss.getD j []) := by
  obtain ⟨j, hj, e⟩ := List.mem_iff_getElem.1 h
  rw [agsF_get] at e
  rw [agsF_len] at hj
  exact ⟨j, hj, by rw [← e, Nat.zero_add]⟩

def prB (c : UInt8) : Bool := decide (32 ≤ c.toNat) && decide (c.toNat ≤ 126)
theorem prc (c : UInt8) : (decide ((c.toNat : Int) < 32) || decide ((126 : Int) < (c.toNat : Int))) = !prB c := by
  unfold prB
  by_cases h1 : c.toNat < 32
  · rw [decide_eq_true (show (c.toNat : Int) < 32 by omega), decide_eq_false (show ¬ 32 ≤ c.toNat by omega)]; rfl
  · rw [decide_eq_false (show ¬ (c.toNat : Int) < 32 by omega), decide_eq_true (show 32 ≤ c.toNat by omega)]
    by_cases h2 : 126 < c.toNat
    · rw [decide_eq_true (show (126 : Int) < c.toNat by omega), decide_eq_false (show ¬ c.toNat ≤ 126 by omega)]; rfl
    · rw [decide_eq_false (show ¬ (126 : Int) < c.toNat by omega), decide_eq_true (show c.toNat ≤ 126 by omega)]; rfl
theorem azc (c : UInt8) : (decide ((c.toNat : Int) < 97) || decide ((122 : Int) < (c.toNat : Int))) = !azB c := by
  unfold azB
  by_cases h1 : c.toNat < 97
  · rw [decide_eq_true (show (c.toNat : Int) < 97 by omega), decide_eq_false (show ¬ 97 ≤ c.toNat by omega)]; rfl
  · rw [decide_eq_false (show ¬ (c.toNat : Int) < 97 by omega), decide_eq_true (show 97 ≤ c.toNat by omega)]
    by_cases h2 : 122 < c.toNat
    · rw [decide_eq_true (show (122 : Int) < c.toNat by omega), decide_eq_false (show ¬ c.toNat ≤ 122 by omega)]; rfl
    · rw [decide_eq_false (show ¬ (122 : Int) < c.toNat by omega), decide_eq_true (show c.toNat ≤ 122 by omega)]; rfl

/-- The names: small letters alone, or nothing is asked. -/
theorem swn_ok {n : Nat} {a : Bs} {ov : V} {code : Int} {h : H} {K : V → H → Prop} (hl : a.length ≤ 20) (kt : Bd h → K (.b true) h) (k : (∀ c ∈ a, azB c = true) → F6_13 pw (mkX Tryz.prog) (Ok Tryz.prog n) (fun v h => Bd h → K v h) (.s a) ov (.i .i64 code) h) :
    ∀ (m i : Nat), a.length - i < m → i ≤ a.length → (∀ c ∈ a.take i, azB c = true) → F6_265 pw (mkX Tryz.prog) (Ok Tryz.prog n) (fun v h => Bd h → K v h) m (.s a) ov (.i .i64 code) (.i .i64 i) h := by
  intro m
  induction m with
  | zero => intro i hm; omega
  | succ m ih =>
    intro i hm hi hall
    rw [S6_265, lg_s tt9 rfl, lt_i]
    by_cases hlt : i < a.length
    · rw [decide_eq_true (show (i : Int) < a.length by omega), cd_t]
      have hsp : a[i]? = some (a[i]'hlt) := List.getElem?_eq_getElem hlt
      have hz := azc (a[i]'hlt)
      unfold F6_270
      rw [ix_s tt9 rfl hsp, lt_i]
      have next : azB (a[i]'hlt) = true → F6_275 pw (mkX Tryz.prog) (Ok Tryz.prog n) (fun v h => Bd h → K v h) (F6_265 pw (mkX Tryz.prog) (Ok Tryz.prog n) (fun v h => Bd h → K v h) m) (.s a) ov (.i .i64 code) (.i .i64 i) h := by
        intro hc
        unfold F6_275
        rw [ad_64 (by omega), show (i : Int) + 1 = ((i + 1 : Nat) : Int) by omega]
        refine ih (i + 1) (by omega) (by omega) fun c hc' => ?_
        rw [List.take_add_one, hsp] at hc'
        rcases List.mem_append.1 hc' with h | h
        · exact hall c h
        · simp at h; rw [h]; exact hc
      cases h1 : decide (((a[i]'hlt).toNat : Int) < 97) with
      | true =>
        simp only [g0_t, pk_t, cd_t]
        exact kt
      | false =>
        simp only [g0_f]
        rw [ix_s tt9 rfl hsp, gt_i]
        rw [h1, Bool.false_or] at hz
        cases h2 : decide ((122 : Int) < ((a[i]'hlt).toNat : Int)) with
        | true =>
          simp only [pk_f, cd_t]
          exact kt
        | false =>
          simp only [pk_f, cd_f]
          rw [h2] at hz
          exact next (by simpa using hz.symm)
    · rw [decide_eq_false (show ¬ (i : Int) < a.length by omega), cd_f]
      rw [List.take_of_length_le (by omega)] at hall
      exact k hall
end Go.Proofs.YtbkhielalbbopaaGreatDoor.Wb
