/- Which port is whose: the walks of the slices' functions. -/
import Derived.Test.YtbkhielalbbopaaGreatDoorUo0
import Derived.Test.YtbkhielalbbopaaGreatDoorM4
set_option linter.unusedSimpArgs false
set_option linter.unusedVariables false
set_option linter.unusedSectionVars false
set_option linter.unnecessarySimpa false
set_option maxRecDepth 100000
namespace Go.Proofs.YtbkhielalbbopaaGreatDoor.Wb
open Go.Am

noncomputable abbrev xx : X := mkX Tryz.prog

/-- An address; a mapping. -/
structure Ad where
  a : Int
  b : Int
  c : Int
  d : Int
  deriving DecidableEq
structure Mp where
  p : Int
  o : Int
  ad : Ad
  inn : Int
  kd : Int
  un : Int
  deriving DecidableEq

def encA (x : Ad) : List V := [.i .u8 x.a, .i .u8 x.b, .i .u8 x.c, .i .u8 x.d]
def encM (m : Mp) : List V := [.i .i64 m.p, .i .i64 m.o, .i .u8 m.ad.a, .i .u8 m.ad.b, .i .u8 m.ad.c, .i .u8 m.ad.d, .i .i64 m.inn, .i .i64 m.kd, .i .i64 m.un]
theorem encM_len (m : Mp) : (encM m).length = 9 := rfl
theorem encM_one (m : Mp) : (encM m).all oneV = true := rfl

theorem m_index_loop {n : Nat} {h0 : H} (hbd0 : Bd h0) {v clo : V} {es : List Mp} {pr : Mp → Bool} (hv : VecE h0 v 55 9 encM es) (hl : es.length ≤ 10000) {c : Option Nat} (hc : ClP Tryz.prog n h0 c clo encM es pr) {K : V → H → Prop} (hk : ∀ h', Bd h' → But h0 h' none → K (.i .i64 (fndP pr es 0)) h') :
    ∀ (fuel k : Nat) (h : H), es.length < fuel + k → k ≤ es.length → Bd h → But h0 h none → fndP pr (es.drop k) k = fndP pr es 0 →
    F72_9 pw xx (Ok Tryz.prog n) K fuel v clo (.i .i64 (es.length : Nat)) (.i .i64 (k : Nat)) h := by
  intro fuel
  induction fuel with
  | zero => intro k h h1 h2; omega
  | succ fuel ih =>
    intro k h h1 h2 hbd hb hf
    rw [S72_9]
    by_cases hlt : k < es.length
    · simp (disch := omega) only [ws, dec_t, F72_15]
      refine vece_at encM_len (hv.keep (hv.lt hbd0) hb (.inr rfl)) rfl hlt fun b ha => ?_
      rw [ha.all]
      have hd : es.drop k = es[k] :: es.drop (k + 1) := List.drop_eq_getElem_cons hlt
      rw [hd] at hf
      simp only [fndP] at hf
      refine hc.call (List.getElem_mem hlt) hbd (hb.none c) fun h' hbd' hb' => ?_
      cases he : pr es[k] with
      | true =>
        simp (disch := omega) only [ws]
        rw [if_pos he] at hf
        have := hk h' hbd' (hb.trans hb')
        rw [← hf] at this
        exact this
      | false =>
        simp (disch := omega) only [ws, F72_20]
        rw [if_neg (by rw [he]; simp)] at hf
        exact ih (k + 1) h' (by omega) (by omega) hbd' (hb.trans hb') hf
    · simp (disch := omega) only [ws, dec_f, F72_4]
      rw [List.drop_eq_nil_of_le (by omega)] at hf
      have := hk h hbd hb
      rw [← hf] at this
      exact this

theorem m_index_ok {n : Nat} (hn : 1 ≤ n) {h0 : H} {v clo : V} {es : List Mp} {pr : Mp → Bool} (hv : VecE h0 v 55 9 encM es) (hl : es.length ≤ 10000) {c : Option Nat} (hc : ClP Tryz.prog (n - 1) h0 c clo encM es pr) {K : V → H → Prop} (hk : ∀ h', Bd h' → But h0 h' none → K (.i .i64 (fndP pr es 0)) h') : Ok Tryz.prog n 72 [v, clo] h0 K := by
  obtain ⟨n, rfl⟩ := Nat.exists_eq_add_of_le' hn
  refine K72 fun hbd0 => ?_
  simp (disch := omega) only [F72, vece_len tt84 rfl hv]
  exact m_index_loop hbd0 hv hl hc hk 100000 0 h0 (by omega) (by omega) hbd0 (But.refl _ _) rfl

theorem m_delete_loop {n : Nat} {h0 : H} (hbd0 : Bd h0) {v clo : V} {es : List Mp} {pr : Mp → Bool} (hl : es.length ≤ 10000) (ho : ∀ e ∈ es, (encM e).all oneV = true) (hvb : vblk v ≠ none) (hvl : ∀ q, vblk v = some q → q < h0.next) (hc : ClP Tryz.prog n h0 (vblk v) clo encM es pr) {K : V → H → Prop}
    (hk : ∀ v' h', Bd h' → But h0 h' (vblk v) → vblk v' = vblk v → VecE h' v' 55 9 encM (es.filter fun e => !pr e) → K v' h') :
    ∀ (fuel i j : Nat) (h : H) (cur : List Mp), es.length < fuel + j → j ≤ es.length → i < j → Bd h → But h0 h (vblk v) → VecE h v 55 9 encM cur → cur.length = es.length → cur.drop j = es.drop j → cur.take i = (es.take j).filter (fun e => !pr e) →
    F68_26 pw xx (Ok Tryz.prog n) K fuel v clo (.i .i64 (i : Nat)) (.i .i64 (j : Nat)) h := by
  intro fuel
  induction fuel with
  | zero => intro i j h cur h1 h2; omega
  | succ fuel ih =>
    intro i j h cur h1 h2 hij hbd hb hv hcl hcd hct
    rw [S68_26]
    rw [vece_len tt84 rfl hv, hcl]
    by_cases hlt : j < es.length
    · simp (disch := omega) only [ws, dec_t, F68_31]
      refine vece_at encM_len hv rfl (show j < cur.length by omega) fun b ha => ?_
      have hcj : cur[j] = es[j] := by
        have h3 := List.drop_eq_getElem_cons (l := cur) (i := j) (by omega)
        have h4 := List.drop_eq_getElem_cons (l := es) (i := j) hlt
        rw [hcd, h4] at h3
        exact (List.cons.inj h3).1.symm
      have hcd1 : cur.drop (j + 1) = es.drop (j + 1) := by
        rw [← List.drop_drop, ← List.drop_drop, hcd]
      rw [hcj] at ha
      rw [ha.all]
      have hoj := ho es[j] (List.getElem_mem hlt)
      refine al_a tt55 fun q h3 hq hb3 hq1 hq2 => ?_
      refine sn_w (w := .a (encM es[j])) (cs := encM es[j]) hq rfl (encM_len _) rfl hoj fun h4 hq4 hb4 => ?_
      rw [ln_w (sz := 9) hq4 (encM_len _)]
      have hb34 : But h h4 none := hb3.over hb4 (.inr fun r e => by cases e; exact hq1)
      have hb04 : But h0 h4 (vblk v) := hb.trans (hb34.none _)
      have hbd4 := hb34.2.2 hbd
      have hqv : vblk v ≠ some q := by
        intro e
        have := hvl q e
        have := hb.1
        omega
      refine hc.call (List.getElem_mem hlt) hbd4 hb04 fun h5 hbd5 hb5 => ?_
      have hv5 := (hv.keep (hv.lt hbd) hb34 (.inr rfl)).keep (fun z hz => by have := hvl z hz; have := hb04.1; omega) hb5 (.inr rfl)
      have hb05 : But h0 h5 (vblk v) := hb04.trans (hb5.none _)
      have htk : es.take (j + 1) = es.take j ++ [es[j]] := List.take_succ_eq_append_getElem hlt
      cases he : pr es[j] with
      | true =>
        simp (disch := omega) only [ws, Bool.not_true, F68_36]
        refine ih i (j + 1) h5 cur (by omega) (by omega) (by omega) hbd5 hb05 hv5 hcl hcd1 ?_
        rw [htk, List.filter_append, hct]
        simp [he]
      | false =>
        simp (disch := omega) only [ws, Bool.not_false]
        have hq5 := hb5.get (Nat.lt_of_lt_of_le hq2 hb4.1) (by simp) hq4
        rw [ln_w (sz := 9) hq5 (encM_len _)]
        refine vece_at encM_len hv5 (i := i) rfl (by omega) fun b2 ha2 => ?_
        refine vece_set encM_len hv5 (i := i) (by omega) ha2.blk hoj fun h6 hv6 hb6 => ?_
        try simp (disch := omega) only [ws, F68_36]
        have hb06 : But h0 h6 (vblk v) := hb05.trans hb6
        refine ih (i + 1) (j + 1) h6 (cur.set i es[j]) (by omega) (by omega) (by omega) (hb6.2.2 hbd5) hb06 hv6 (by rw [List.length_set]; exact hcl) ?_ ?_
        · rw [List.drop_set_of_lt (by omega)]; exact hcd1
        · rw [htk, List.filter_append, ← hct, List.take_set, List.take_succ_eq_append_getElem (show i < cur.length by omega), List.set_append_right _ _ (by rw [List.length_take]; omega)]
          have e0 : i - (cur.take i).length = 0 := by rw [List.length_take]; omega
          rw [e0]
          simp [he]
    · simp (disch := omega) only [ws, dec_f, F68_12]
      have hil : i < cur.length := by omega
      refine vec_cut tt84 rfl tt55 rfl rfl encM_len hv hil fun v' h' hv' hb' hq' => ?_
      have hbd' := hb'.2.2 hbd
      refine hk v' h' hbd' (hb.trans hb') hq' ?_
      rw [hct, List.take_of_length_le (by omega)] at hv'
      exact hv'

theorem m_delete_ok {n : Nat} (hn : 2 ≤ n) {h0 : H} {v clo : V} {es : List Mp} {pr : Mp → Bool} (hv : VecE h0 v 55 9 encM es) (hl : es.length ≤ 10000) (ho : ∀ e ∈ es, (encM e).all oneV = true) (hc : ClP Tryz.prog (n - 1) h0 (vblk v) clo encM es pr) (hc2 : ClP Tryz.prog (n - 2) h0 (vblk v) clo encM es pr) {K : V → H → Prop}
    (hk : ∀ v' h', Bd h' → But h0 h' (vblk v) → vblk v' = vblk v → VecE h' v' 55 9 encM (es.filter fun e => !pr e) → K v' h') : Ok Tryz.prog n 68 [v, clo] h0 K := by
  obtain ⟨n, rfl⟩ := Nat.exists_eq_add_of_le' hn
  refine K68 (n := n + 1) fun hbd0 => ?_
  simp (disch := omega) only [F68, ws]
  refine m_index_ok (n := n + 1) (by omega) hv hl hc2 fun h1 hbd1 hb1 => ?_
  have hv1 := hv.keep (hv.lt hbd0) hb1 (.inr rfl)
  by_cases hneg : fndP pr es 0 < 0
  · have e1 : fndP pr es 0 = -1 := by have := fndP_lo pr es 0; omega
    rw [e1]
    simp (disch := omega) only [ws, dec_t]
    refine hk v h1 hbd1 (hb1.none _) rfl ?_
    rw [List.filter_eq_self.2 fun e he => by rw [fndP_neg hneg e he]; rfl]
    exact hv1
  · obtain ⟨j, hj, e1, e2, e3⟩ := fndP_some (show 0 ≤ fndP pr es 0 by omega)
    rw [Nat.zero_add] at e1
    rw [e1]
    simp (disch := omega) only [ws, dec_f, F68_8]
    have hvb : vblk v ≠ none := by
      obtain ⟨_, ⟨_, hn⟩ | ⟨_, _, _, _, rfl, _⟩⟩ := hv
      · omega
      · simp [vblk]
    refine m_delete_loop hbd1 hl ho hvb (fun q hq => Nat.lt_of_lt_of_le (hv.lt hbd0 q hq) hb1.1) (hc.later (hb1.none _)) (fun v' h' hbd' hb' hq' hv' => hk v' h' hbd' ((hb1.none _).trans hb') hq' hv') 100000 j (j + 1) h1 es (by omega) (by omega) (by omega) hbd1 (But.refl _ _) hv1 rfl rfl ?_
    rw [List.take_succ_eq_append_getElem hj, List.filter_append]
    have e4 : (es.take j).filter (fun e => !pr e) = es.take j := List.filter_eq_self.2 fun e he => by
      obtain ⟨i, hi, rfl⟩ := List.mem_iff_getElem.1 he
      rw [List.length_take] at hi
      rw [List.getElem_take, e3 i (by omega)]; rfl
    rw [e4]
    simp [e2]
end Go.Proofs.YtbkhielalbbopaaGreatDoor.Wb
