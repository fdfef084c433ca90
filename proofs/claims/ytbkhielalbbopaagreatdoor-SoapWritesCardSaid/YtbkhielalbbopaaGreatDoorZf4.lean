/- SoapWrites: what is asked of the tree. -/
import Derived.Test.YtbkhielalbbopaaGreatDoorZf3
set_option linter.unusedSimpArgs false
set_option linter.unusedVariables false
set_option linter.unusedSectionVars false
set_option linter.unnecessarySimpa false
set_option maxRecDepth 100000
namespace Go.Proofs.YtbkhielalbbopaaGreatDoor.Wb
open Go Go.Am Go.Am.Xm

theorem AgFind {act : Bs} (h : ∀ c ∈ act, azB c = true) {ss : List Bs} (hl : ss.length ≤ 10) {i : Nat} (hi : i < ss.length) :
    findP (envD (respD act (agsF 0 ss))).xt [[66, 111, 100, 121], act ++ respS, [111, kb i]] = some (.node [111, kb i] (ss.getD i []) []) := by
  have hlen := agsF_len 0 ss
  have e := find_ag (al := agsF 0 ss) h (by omega) (i := i) (by omega) (fun a ha => by
    obtain ⟨j, hj, rfl⟩ := agsF_mem ha
    exact (NMo (by omega)).pl) (fun j hj hj' e => by
    rw [agsF_get, agsF_get] at e
    simp only [Nat.zero_add, List.cons.injEq, and_true, true_and] at e
    have := kb_inj (by omega) (by omega) e
    omega)
  rw [agsF_get, Nat.zero_add] at e
  exact e

/-- The last loop. -/
theorem sw_find {n : Nat} (hn : 2 ≤ n) {act : Bs} {ss : List Bs} (hact : act.length ≤ 20) (hss : ss.length ≤ 10) (ha : ∀ c ∈ act, azB c = true) {q : Nat} {lv : V} {e : Te} {hS : H} {K : V → H → Prop}
    (A : TrA hS (fun z => z < hS.next) (envD (respD act (agsF 0 ss))).xt e) (hg : hS.mem.get q = some (.c (encT e) 63 true)) (hq : q < hS.next) (hv : VecE hS lv 49 2 encA (agsF 0 ss)) (hlt : ∀ q, vblk lv = some q → q < hS.next) (k : ∀ h', But hS h' none → K (.b true) h') :
    ∀ (m i : Nat) (h : H), ss.length - i < m → i ≤ ss.length → But hS h none → F6_50 pw (mkX Tryz.prog) (Ok Tryz.prog n) (fun v h => Bd h → K v h) m (.s act) lv (.p q 0) (.i .i64 i) h := by
  intro m
  induction m with
  | zero => intro i h hm; omega
  | succ m ih =>
    intro i h hm hi f
    have hlen := agsF_len 0 ss
    have hvh : ∀ {h'}, But hS h' none → VecE h' lv 49 2 encA (agsF 0 ss) := fun f' => hv.keep hlt f' (.inr rfl)
    rw [S6_50, vece_len tt23 rfl (hvh f), hlen, lt_i]
    by_cases hlt' : i < ss.length
    · rw [decide_eq_true (show (i : Int) < ss.length by omega), cd_t]
      unfold F6_55
      have gq := f.get hq (by simp) hg
      simp only [c6]
      rw [ln_w (sz := 3) gq rfl, ad_s (by simp; omega)]
      have hget : (agsF 0 ss)[i]'(by omega) = ([111, kb i], ss.getD i []) := by rw [agsF_get, Nat.zero_add]
      refine vece_at encA_len (hvh f) (i := i) rfl (by omega) fun bk hat => ?_
      rw [hget] at hat
      simp only [fa_p]
      rw [hat.get (f := 0) (x := .s [111, kb i]) rfl]
      refine bs_a (cs := [.s [66, 111, 100, 121], .s (act ++ respS), .s [111, kb i]]) (l := [(0, .s _), (1, .s _), (2, .s _)]) tt59 rfl tt9 (by decide) rfl rfl fun rn h1 g1 f1 n0 n1 => ?_
      have fS1 := f.trans f1
      simp only [cf_k]
      have A1 : TrA h1 (fun z => z < h1.next) (envD (respD act (agsF 0 ss))).xt e := A.keep ⟨fS1.1, fun q hq _ => fS1.2.1 q hq (by simp)⟩ fun q hq _ => Nat.lt_of_lt_of_le hq fS1.1
      refine find_ok (nms := [[66, 111, 100, 121], act ++ respS, [111, kb i]]) hn A1 (by simp) g1 (AgFind ha hss hlt') fun h3 f3 => ?_
      simp only [ex_t, List.getElem?_cons_zero, List.getElem?_cons_succ, oP_some]
      refine al_a tt63 fun z h4 g4 f4 z0 z1 => ?_
      refine sn_w g4 (cs := encT ([111, kb i], ss.getD i [], .ns)) rfl rfl rfl rfl fun h5 g5 f5 => ?_
      have fS5 := ((fS1.trans f3).trans f4).over f5 (.inr fun w ew => by cases ew; exact Nat.le_trans (fS1.trans f3).1 z0)
      simp only [nt_b, Bool.not_true, g0_f, fa_p, Nat.zero_add]
      rw [l1_a g5 (x := .s (ss.getD i [])) rfl]
      refine vece_at encA_len (hvh fS5) (i := i) rfl (by omega) fun bk2 hat2 => ?_
      rw [hget] at hat2
      simp only [fa_p]
      rw [hat2.get (f := 1) (x := .s (ss.getD i [])) rfl, ne_s]
      simp only [beq_self_eq_true, Bool.not_true, pk_f, cd_f]
      unfold F6_60
      rw [ad_64 (by omega), show (i : Int) + 1 = ((i + 1 : Nat) : Int) by omega]
      exact ih (i + 1) h5 (by omega) (by omega) fS5
    · rw [decide_eq_false (show ¬ (i : Int) < ss.length by omega), cd_f]
      unfold F6_47
      exact fun _ => k h f

theorem outA_len {i : Nat} {s : Bs} (h : s.length ≤ 60) : (outA ([111, kb i], s)).length ≤ 400 := by
  have := esc_len s
  simp only [outA, List.length_append, List.length_cons, List.length_nil]; omega
theorem docS_len {act : Bs} {ss : List Bs} (hact : act.length ≤ 20) (hss : ss.length ≤ 10) (hs : ∀ s ∈ ss, s.length ≤ 60) (c : Nat) (hc : c < 1000) : (docS (if c = 0 then respD act (agsF 0 ss) else faultD c)).length ≤ 8000 ∧ (if c = 0 then respD act (agsF 0 ss) else faultD c).body.length ≤ 7000 := by
  have hd := digs_len 2 c (by omega)
  have ho := outS_len (b := 400) (agsF 0 ss) fun a ha => by
    obtain ⟨j, hj, rfl⟩ := agsF_mem ha
    exact outA_len (by
      rw [List.getD_eq_getElem?_getD, List.getElem?_eq_getElem hj]
      exact hs _ (List.getElem_mem hj))
  rw [agsF_len] at ho
  have hm : ss.length * 400 ≤ 10 * 400 := Nat.mul_le_mul_right _ hss
  have hb : (60 :: (if c = 0 then respD act (agsF 0 ss) else faultD c).body).length ≤ 6000 := by
    by_cases h0 : c = 0
    · rw [if_pos h0, resp_body]
      simp only [List.length_append, List.length_cons, List.length_nil]; omega
    · rw [if_neg h0, fault_body hc]
      simp only [List.length_append, List.length_cons, List.length_nil]; omega
  refine ⟨?_, by simp only [List.length_cons] at hb; omega⟩
  rw [doc_body]
  simp only [List.length_append, List.length_cons, List.length_nil] at hb ⊢; omega

theorem outS_pl : ∀ {al : List Ag}, (∀ a ∈ al, plnB a.1 ∧ plnB a.2) → plnB (outS al)
  | [], _ => fun c hc => by simp [outS] at hc
  | a :: al, h => by
    have ha := h a (List.mem_cons_self ..)
    exact pln_app (pln_app (pln_app (pln_app (pln_app (pln_app (pln_app (pln_lit (by decide)) ha.1) (pln_lit (by decide))) (esc_pl ha.2)) (pln_lit (by decide))) ha.1) (pln_lit (by decide))) (outS_pl fun b hb => h b (List.mem_cons_of_mem _ hb))
theorem docS_pl {act : Bs} {ss : List Bs} (ha : ∀ c ∈ act, azB c = true) (hss : ss.length ≤ 10) (hs : ∀ s ∈ ss, plnB s) (c : Nat) (hc : c < 1000) : plnB (docS (if c = 0 then respD act (agsF 0 ss) else faultD c)) := by
  rw [doc_body]
  refine pln_app (pln_app (pln_lit (by decide)) ?_) (pln_lit (by decide))
  by_cases h0 : c = 0
  · rw [if_pos h0, resp_body]
    refine pln_app (pln_app (pln_app (pln_app (pln_app (pln_app (pln_lit (by decide)) (pln_az ha)) (pln_lit (by decide))) (outS_pl fun a hm => ?_)) (pln_lit (by decide))) (pln_az ha)) (pln_lit (by decide))
    obtain ⟨j, hj, rfl⟩ := agsF_mem hm
    refine ⟨fun c hc => ?_, ?_⟩
    · simp at hc
      rcases hc with rfl | rfl
      · decide
      · rw [kb_nat (by omega)]; omega
    · show plnB (ss.getD j [])
      rw [List.getD_eq_getElem?_getD, List.getElem?_eq_getElem hj]
      exact hs _ (List.getElem_mem hj)
  · rw [if_neg h0, fault_body hc]
    exact pln_app (pln_app (pln_lit (by decide)) (digs_pl 2 c (by omega))) (pln_lit (by decide))

/-- What is written is parsed, and looked at. -/
theorem sw_end {n : Nat} (hn : 22 ≤ n) {act : Bs} {ss : List Bs} {lv : V} {c : Nat} (hact : act.length ≤ 20) (hss : ss.length ≤ 10) (hc : c < 1000) (ha : ∀ c ∈ act, azB c = true) (hs : ∀ s ∈ ss, s.length ≤ 60 ∧ plnB s) {h : H} {K : V → H → Prop} (L : Low h) (p : P10 h)
    (hv : VecE h lv 49 2 encA (agsF 0 ss)) (hbd : Bd h) (k : ∀ h', But h h' none → K (.b true) h') : F6_22 pw (mkX Tryz.prog) (Ok Tryz.prog n) (fun v h => Bd h → K v h) (.s act) (.i .i64 c) lv h := by
  have hlt := hv.lt hbd
  have hlen := agsF_len 0 ss
  obtain ⟨hd1, hd2⟩ := docS_len hact hss (fun s hm => (hs s hm).1) c hc
  have hpl := docS_pl ha hss (fun s hm => (hs s hm).2) c hc
  unfold F6_22
  refine bl_a (v := .a [.s act, .ns]) ?_ ?_
  · unfold blW
    rw [ti_some _ tt25]
    rfl
  simp only [cf_k]
  have hags : ∀ a ∈ agsF 0 ss, a.1.length ≤ 1000 ∧ a.2.length ≤ 1000 := fun a hm => by
    obtain ⟨j, hj, rfl⟩ := agsF_mem hm
    refine ⟨by simp, ?_⟩
    show (ss.getD j []).length ≤ 1000
    rw [List.getD_eq_getElem?_getD, List.getElem?_eq_getElem hj]
    have := (hs _ (List.getElem_mem hj)).1
    simp only [Option.getD_some]; omega
  refine write_ok (al := agsF 0 ss) (by omega) hc (by omega) (by omega) hags rfl (by omega) p hv fun h1 f1 => ?_
  have hparse : parseP 7 (docS (if c = 0 then respD act (agsF 0 ss) else faultD c)) = some ((envD (if c = 0 then respD act (agsF 0 ss) else faultD c)).xt, 0) := by
    by_cases h0 : c = 0
    · rw [if_pos h0]
      exact doc_parse (resp_ok ha (fun a hm => by
        obtain ⟨j, hj, rfl⟩ := agsF_mem hm
        have := NMo (i := j) (by omega)
        exact ⟨this.all, this.hd, this.ok, rfl⟩) (by omega)) (Nat.le_trans (resp_ht _ _) (by omega))
    · rw [if_neg h0]
      exact doc_parse (fault_ok c) (by rw [fault_ht]; omega)
  refine parse_ok (k := 7) (by omega) (by decide) (by omega) hpl hparse (L.keep f1 (by simp)) fun h2 e2 f2 A2 => ?_
  simp only [ex_t, List.getElem?_cons_zero, List.getElem?_cons_succ, oP_some]
  refine al_a tt63 fun q h3 g3 f3 q0 q1 => ?_
  refine sn_w g3 (cs := encT e2) rfl rfl rfl (enc_one A2) fun h4 g4 f4 => ?_
  have f14 := ((f1.trans f2).trans f3).over f4 (.inr fun w ew => by cases ew; exact Nat.le_trans (f1.trans f2).1 q0)
  have A4 : TrA h4 (fun z => z < h4.next) (envD (if c = 0 then respD act (agsF 0 ss) else faultD c)).xt e2 := A2.keep ⟨Nat.le_trans f3.1 f4.1, fun z hz _ => by rw [f4.2.1 z (Nat.lt_of_lt_of_le hz f3.1) (fun e => by cases e; omega), f3.2.1 z hz (by simp)]⟩ fun z hz _ => Nat.lt_of_lt_of_le hz (Nat.le_trans f3.1 f4.1)
  have hnm : e2.1 = [69, 110, 118, 101, 108, 111, 112, 101] := by
    have e0 : plainS sEnv = [69, 110, 118, 101, 108, 111, 112, 101] := by decide
    rw [← e0]
    exact A4.1
  simp only [ne_i, decide_true, Bool.not_true, g0_f, fa_p, Nat.zero_add, c6]
  rw [l1_a g4 (x := .s e2.1) rfl, hnm, ne_s]
  simp only [beq_self_eq_true, Bool.not_true, pk_f, cd_f]
  unfold F6_38
  rw [ne_i]
  have hq4 : q < h4.next := Nat.lt_of_lt_of_le q1 f4.1
  by_cases h0 : c = 0
  · rw [if_pos h0] at A4
    rw [decide_eq_true (show (c : Int) = 0 by omega), Bool.not_true, cd_f]
    unfold F6_43
    exact sw_find (by omega) hact hss ha A4 g4 hq4 (hv.keep hlt f14 (.inr rfl)) (fun q hq => Nat.lt_of_lt_of_le (hlt q hq) f14.1) (fun h' f' => k h' (f14.trans f')) 100000 0 h4 (by omega) (by omega) (But.refl _ _)
  · rw [if_neg h0] at A4
    rw [decide_eq_false (show ¬ (c : Int) = 0 by omega), Bool.not_false, cd_t, ln_w (sz := 3) g4 rfl]
    simp only [c6]
    refine bs_a (cs := [.s [66, 111, 100, 121], .s [70, 97, 117, 108, 116], .s [100, 101, 116, 97, 105, 108], .s [85, 80, 110, 80, 69, 114, 114, 111, 114], .s [101, 114, 114, 111, 114, 67, 111, 100, 101]]) (l := [(0, .s _), (1, .s _), (2, .s _), (3, .s _), (4, .s _)]) tt59 rfl tt9 (by decide) rfl rfl fun rn h5 g5 f5 n0 n1 => ?_
    have A5 : TrA h5 (fun z => z < h5.next) (envD (faultD c)).xt e2 := A4.keep ⟨f5.1, fun q hq _ => f5.2.1 q hq (by simp)⟩ fun q hq _ => Nat.lt_of_lt_of_le hq f5.1
    simp only [cf_k]
    refine find_ok (nms := [[66, 111, 100, 121], [70, 97, 117, 108, 116], [100, 101, 116, 97, 105, 108], [85, 80, 110, 80, 69, 114, 114, 111, 114], [101, 114, 114, 111, 114, 67, 111, 100, 101]]) (by omega) A5 (by decide) g5 find_code fun h6 f6 => ?_
    simp only [ex_t, List.getElem?_cons_zero, List.getElem?_cons_succ, oP_some]
    refine al_a tt63 fun z h7 g7 f7 z0 z1 => ?_
    refine sn_w g7 (cs := encT (sErr, digs c, .ns)) rfl rfl rfl rfl fun h8 g8 f8 => ?_
    have f48 := (((f5.trans f6).trans f7)).over f8 (.inr fun w ew => by cases ew; exact Nat.le_trans (f5.trans f6).1 z0)
    simp only [g1_t, fa_p, Nat.zero_add]
    rw [l1_a g8 (x := .s (digs c)) rfl]
    show Ok Tryz.prog n 18 [.i .i64 c] h8 fun v h' => KeepH h8 h' ∧ _
    refine rtext_ok 2 (by omega) c (by omega) (by omega) (by omega) fun h9 f9 => ⟨fun q hq => f9.2.1 q hq (by simp), ?_⟩
    rw [eq_s]
    simp only [beq_self_eq_true, pk_t]
    exact fun _ => k h9 ((f14.trans f48).trans f9)
end Go.Proofs.YtbkhielalbbopaaGreatDoor.Wb
