/- XmlTexts: the walk of the law. -/
import Derived.Test.YtbkhielalbbopaaDoorXl6
import Derived.Test.YtbkhielalbbopaaDoorXs10
set_option linter.unusedSimpArgs false
set_option linter.unusedVariables false
set_option linter.unusedSectionVars false
set_option linter.unnecessarySimpa false
set_option maxRecDepth 100000
namespace Go.Proofs.YtbkhielalbbopaaDoor.Wb
open Go Go.Am Go.Am.Xm

theorem againV {en : T B} {h : H} {ix r : Nat} {bs : Bs} (hg : (bif Nat.blt r h.next then h.mem.get r else en.get r) = some (.c (u8s bs) 5 true)) : againW en ⟨ix, rdVw (mkX Tryd.prog) 35 9 (.sl r 0 bs.length bs.length false), .s bs⟩ h = true := by
  have hs : sub (u8s bs) 0 bs.length = some (u8s bs) := by
    rw [sub_mk (by simp [u8s]), List.drop_zero, List.take_of_length_le (by simp [u8s])]
  unfold againW
  have e : rdVw (mkX Tryd.prog) 35 9 (.sl r 0 bs.length bs.length false) (fun k => bif Nat.blt k h.next then h.mem.get k else en.get k) = some (.s bs) := by
    simp only [rdVw, ti_some _ tt35, ti_some _ tt9, ti_some _ tt5, hg, hs, bytesOf_u8s]
  show (match rdVw (mkX Tryd.prog) 35 9 (.sl r 0 bs.length bs.length false) (fun k => bif Nat.blt k h.next then h.mem.get k else en.get k) with | some a => sameV a (.s bs) | none => false) = true
  rw [e]
  exact sameV_rflW _

theorem blt_no {a b : Nat} (h : b ≤ a) : Nat.blt a b = false := by
  cases e : Nat.blt a b with
  | false => rfl
  | true => have := Nat.le_of_ble_eq_true e; omega

/-- One byte's slice. -/
theorem bs1_ok {h : H} {κh : V → H → Prop} {c : UInt8} (k : κh (.sl h.next 0 1 1 false) ⟨h.next + 1, h.mem.put h.next (some (.c (u8s [c]) 5 true))⟩) : pw.bs (mkX Tryd.prog) 35 1 [(0, .i .u8 (c.toNat : Int))] h κh := by
  rw [bs_ok (l := [(0, .i .u8 (c.toNat : Int))]) (cs := u8s [c]) tt35 rfl tt5 (by decide) rfl rfl]
  exact k

theorem kb_ad {i : Nat} (hi : i < 26) {κ : V → Prop} : (pw.ad (mkX Tryd.prog) 3 (.i .i64 97) (.i .i64 (i : Int)) fun v => pw.ci (mkX Tryd.prog) 3 5 .u8 v κ) = κ (.i .u8 ((kb i).toNat : Int)) := by
  rw [ad_64 (by omega), ci_u8 (by omega), kb_nat hi]
  congr 2

theorem kidS_len (ey : Bs) (i : Nat) : (kidS ey i).length = ey.length + 9 := by simp [kidS]
theorem kidsS_len (ey : Bs) : ∀ (j i : Nat), (kidsS ey i j).length = j * (ey.length + 9)
  | 0, _ => by simp [kidsS]
  | j + 1, i => by
    have h := kidsS_len ey j (i + 1)
    have e : kidsS ey i (j + 1) = kidS ey i ++ kidsS ey (i + 1) j := by simp [kidsS, List.range'_succ]
    rw [e, List.length_append, kidS_len, h, Nat.add_mul]; omega
theorem kidsS_end (ey : Bs) (i : Nat) : kidsS ey 0 (i + 1) = kidsS ey 0 i ++ kidS ey i := by
  unfold kidsS
  rw [List.range'_concat, List.flatMap_append]
  simp
theorem textS_len (x y : Bs) (n : Nat) : (textS x y n).length = 8 + 2 * (esc x).length + n * ((esc y).length + 9) := by
  simp only [textS, List.length_append, kidsS_len, List.length_cons, List.length_nil]; omega
theorem kidsS_pl {ey : Bs} (h : plnB ey) : ∀ (j i : Nat), i + j ≤ 20 → plnB (kidsS ey i j)
  | 0, _, _ => fun c hc => by simp [kidsS] at hc
  | j + 1, i, hij => by
    have e : kidsS ey i (j + 1) = kidS ey i ++ kidsS ey (i + 1) j := by simp [kidsS, List.range'_succ]
    rw [e]
    have hk : plnB [kb i] := fun c hc => by
      simp at hc
      subst hc
      rw [kb_nat (by omega)]; omega
    exact pln_app (pln_app (pln_app (pln_app (pln_app (pln_app (pln_app (pln_lit (by decide)) hk) (pln_lit (by decide))) h) (pln_lit (by decide))) hk) (pln_lit (by decide))) (kidsS_pl h j (i + 1) (by omega))

/-- The last loop: each kid is found. -/
theorem tx_find {n : Nat} (hn : 2 ≤ n) {x y : Bs} {N q : Nat} (hN : N ≤ 20) {e : Te} {hS : H} {K : V → H → Prop} (A : TrA hS (fun z => z < hS.next) (.node [114] (x ++ y) (kidsT y 0 N)) e) (hg : hS.mem.get q = some (.c (encT e) 25 true)) (hq : q < hS.next) (k : ∀ h', But hS h' none → K (.b true) h') :
    ∀ (m i : Nat) (h : H), N - i < m → i ≤ N → But hS h none → F5_51 pw (mkX Tryd.prog) (Ok Tryd.prog n) (fun v h => Bd h → K v h) m (.i .i64 N) (.s y) (.p q 0) (.i .i64 i) h := by
  intro m
  induction m with
  | zero => intro i h hm; omega
  | succ m ih =>
    intro i h hm hi f
    rw [S5_51, lt_i]
    by_cases hlt : i < N
    · rw [decide_eq_true (show (i : Int) < N by omega), cd_t]
      unfold F5_56
      have gq := f.get hq (by simp) hg
      rw [ln_w (sz := 3) gq rfl, kb_ad (by omega)]
      refine bs1_ok ?_
      have f1 : But h ⟨h.next + 1, h.mem.put h.next (some (.c (u8s [kb i]) 5 true))⟩ none := But.new _ _ _
      have hg1 : (⟨h.next + 1, h.mem.put h.next (some (.c (u8s [kb i]) 5 true))⟩ : H).mem.get h.next = some (.c (u8s [kb i]) 5 true) := get_same
      generalize (⟨h.next + 1, h.mem.put h.next (some (.c (u8s [kb i]) 5 true))⟩ : H) = h1 at f1 hg1 ⊢
      rw [show pw.cs (mkX Tryd.prog) 35 9 (.sl h.next 0 1 1 false) h1 = fun κ => κ (.s [kb i]) from funext fun κ => cs_bs (bs := [kb i]) hg1]
      simp only [c5]
      rw [ad_s (by simp)]
      refine bs_a (cs := [.s [107, kb i]]) (l := [(0, .s [107, kb i])]) tt38 rfl tt9 (by decide) rfl rfl fun rn h2 g2 f2 n0 n1 => ?_
      have fS2 := (f.trans f1).trans f2
      simp only [cf_k]
      have A2 : TrA h2 (fun z => z < h2.next) (.node [114] (x ++ y) (kidsT y 0 N)) e := A.keep ⟨fS2.1, fun q hq _ => fS2.2.1 q hq (by simp)⟩ fun q hq _ => Nat.lt_of_lt_of_le hq fS2.1
      refine find_ok (nms := [[107, kb i]]) hn A2 (by simp) g2 (texts_find hN hlt) fun h3 f3 => ?_
      simp only [ex_t, List.getElem?_cons_zero, List.getElem?_cons_succ, oP_some]
      refine al_a tt25 fun z h4 g4 f4 z0 z1 => ?_
      refine sn_w g4 (cs := encT ([107, kb i], y, .ns)) rfl rfl rfl rfl fun h5 g5 f5 => ?_
      have fS5 := ((fS2.trans f3).trans f4).over f5 (.inr fun w ew => by cases ew; exact Nat.le_trans (fS2.trans f3).1 z0)
      simp only [nt_b, Bool.not_true, g0_f, fa_p, Nat.zero_add]
      rw [l1_a g5 (x := .s y) rfl, ne_s]
      simp only [beq_self_eq_true, Bool.not_true, pk_f, g0_f, fa_p, Nat.zero_add]
      rw [l1_a g5 (x := .ns) rfl, ls_ns tt23 rfl]
      simp only [ne_i, decide_true, Bool.not_true, pk_f, cd_f]
      unfold F5_61
      rw [ad_64 (by omega), show (i : Int) + 1 = ((i + 1 : Nat) : Int) by omega]
      exact ih (i + 1) h5 (by omega) (by omega) fS5
    · rw [decide_eq_false (show ¬ (i : Int) < N by omega), cd_f]
      unfold F5_48
      exact fun _ => k h f

/-- What is asked of the tree. -/
theorem tx_end {n : Nat} (hn : 18 ≤ n) {x y : Bs} {N : Nat} (hN : N ≤ 20) (hx : (esc x).length ≤ 600) (hy : (esc y).length ≤ 180) (hxl : x.length ≤ 100) (hyl : y.length ≤ 30) (px : plnB (esc x)) (py : plnB (esc y)) {h : H} {K : V → H → Prop} (L : Low h) (k : ∀ h', But h h' none → K (.b true) h') :
    F5_27 pw (mkX Tryd.prog) (Ok Tryd.prog n) (fun v h => Bd h → K v h) (.i .i64 N) (.s x) (.s y) (.s (textS x y N)) h := by
  have hlen := textS_len x y N
  have hmul : N * ((esc y).length + 9) ≤ 20 * 189 := Nat.mul_le_mul hN (by omega)
  have hpl : plnB (textS x y N) := pln_app (pln_app (pln_app (pln_app (pln_lit (by decide)) px) (pln_lit (by decide))) px) (kidsS_pl py N 0 (by omega))
  have hp := texts_parse (x := x) (y := y) hN
  generalize textS x y N = s at hlen hpl hp ⊢
  unfold F5_27
  simp only [cf_k, c5]
  refine es_ok (by omega) (by omega) fun h1 f1 => ?_
  rw [ad_s (by omega), ad_s (by rw [List.length_append]; simp; omega)]
  refine parse_ok (k := 3) (by omega) (by decide) (by simp; omega) (pln_app (pln_app hpl py) (pln_lit (by decide))) hp (L.keep f1 (by simp)) fun h2 e2 f2 A2 => ?_
  simp only [ex_t, List.getElem?_cons_zero, List.getElem?_cons_succ, oP_some]
  refine al_a tt25 fun q h3 g3 f3 q0 q1 => ?_
  refine sn_w g3 (cs := encT e2) rfl rfl rfl (enc_one A2) fun h4 g4 f4 => ?_
  have f14 := ((f1.trans f2).trans f3).over f4 (.inr fun w ew => by cases ew; exact Nat.le_trans (f1.trans f2).1 q0)
  have A4 : TrA h4 (fun z => z < h4.next) (.node [114] (x ++ y) (kidsT y 0 N)) e2 := A2.keep ⟨Nat.le_trans f3.1 f4.1, fun z hz _ => by rw [f4.2.1 z (Nat.lt_of_lt_of_le hz f3.1) (fun e => by cases e; omega), f3.2.1 z hz (by simp)]⟩ fun z hz _ => Nat.lt_of_lt_of_le hz (Nat.le_trans f3.1 f4.1)
  have A4' := A4
  obtain ⟨a1, a2, es, a3, a4, a5⟩ := A4
  simp only [ne_i, decide_true, Bool.not_true, g0_f, fa_p, Nat.zero_add]
  rw [l1_a g4 (x := .s e2.1) rfl, a1, ne_s]
  simp only [beq_self_eq_true, Bool.not_true, pk_f, g0_f, fa_p, Nat.zero_add]
  rw [l1_a g4 (x := .s e2.2.1) rfl, a2, ad_s (by omega), ne_s]
  simp only [beq_self_eq_true, Bool.not_true, pk_f, g0_f, fa_p, Nat.zero_add]
  rw [l1_a g4 (x := e2.2.2) rfl, vece_len tt23 rfl a3]
  have hel : es.length = N := by rw [a5.len]; simp [kidsT]
  simp only [ne_i, hel, decide_true, Bool.not_true, pk_f, cd_f]
  unfold F5_44
  exact tx_find (by omega) hN A4' g4 (Nat.lt_of_lt_of_le q1 f4.1) (fun h' f' => k h' (f14.trans f')) 100000 0 h4 (by omega) (by omega) (But.refl _ _)

/-- XmlTexts, where 'awake' answers true. -/
theorem texts_law {n : Nat} (hn : 18 ≤ n) {a b : Bs} {nn : Int} {h : H} {K : V → H → Prop} (L : Low h) (aw : ∀ {K : V → H → Prop}, (∀ h', But h h' none → K (.b true) h') → Ok Tryd.prog n 9 [] h K)
    (k : ∀ h', But h h' none → K (.b true) h') : Ok Tryd.prog (n + 1) 5 [.s a, .s b, .i .i64 nn] h K := by
  refine Ok.bd (K5 fun hbd => ?_)
  unfold F5
  rw [cf_k]
  refine aw fun h1 f1 => ?_
  simp only [nt_b, Bool.not_true, cd_f]
  have kt : Bd h1 → K (.b true) h1 := fun _ => k h1 f1
  unfold F5_5
  rw [lg_s tt9 rfl, gt_i]
  by_cases hla : 100 < a.length
  · rw [decide_eq_true (show (100 : Int) < a.length by omega)]
    simp only [g0_t, pk_t, cd_t]
    exact kt
  rw [decide_eq_false (show ¬ (100 : Int) < a.length by omega)]
  simp only [g0_f, pk_f]
  rw [lg_s tt9 rfl, gt_i]
  by_cases hlb : 30 < b.length
  · rw [decide_eq_true (show (30 : Int) < b.length by omega)]
    simp only [g0_t, pk_t, cd_t]
    exact kt
  rw [decide_eq_false (show ¬ (30 : Int) < b.length by omega)]
  simp only [g0_f, pk_f, lt_i]
  by_cases hn0 : nn < 0
  · rw [decide_eq_true hn0]
    simp only [g0_t, pk_t, cd_t]
    exact kt
  rw [decide_eq_false hn0]
  simp only [g0_f, pk_f, gt_i]
  by_cases hn1 : 20 < nn
  · rw [decide_eq_true hn1]
    simp only [cd_t]
    exact kt
  rw [decide_eq_false hn1]
  simp only [cd_f]
  obtain ⟨N, rfl⟩ : ∃ N : Nat, nn = N := ⟨nn.toNat, by omega⟩
  have hN : N ≤ 20 := by omega
  unfold F5_9
  simp only [cf_k, c5]
  refine cl_ok (by omega) (by omega) ?_
  refine cl_ok (by omega) (by omega) ?_
  have lx := clnS_len a
  have ly := clnS_len b
  have ex := esc_len (clnS a)
  have ey := esc_len (clnS b)
  have px := esc_pl (clnS_pl a)
  have py := esc_pl (clnS_pl b)
  generalize clnS a = x at lx ex px ⊢
  generalize clnS b = y at ly ey py ⊢
  refine es_ok (by omega) (by omega) fun h2 f2 => ?_
  rw [ad_s (by simp; omega), ad_s (by simp; omega)]
  refine es_ok (by omega) (by omega) fun h3 f3 => ?_
  rw [ad_s (by simp; omega)]
  have f13 := (f1.trans f2).trans f3
  have go : ∀ (m i : Nat) (h' : H), N - i < m → i ≤ N → But h h' none → F5_148 pw (mkX Tryd.prog) (Ok Tryd.prog n) (fun v h => Bd h → K v h) m (.i .i64 N) (.s x) (.s y) (.s (textS x y i)) (.i .i64 i) h' := by
    intro m
    induction m with
    | zero => intro i h' hm; omega
    | succ m ih =>
      intro i h' hm hi f
      rw [S5_148, lt_i]
      by_cases hlt : i < N
      · rw [decide_eq_true (show (i : Int) < N by omega), cd_t]
        have hlen := textS_len x y i
        have hmul : i * ((esc y).length + 9) ≤ 20 * 189 := Nat.mul_le_mul (by omega) (by omega)
        have hnext : textS x y (i + 1) = textS x y i ++ [60, 107] ++ [kb i] ++ [62] ++ esc y ++ [60, 47, 107] ++ [kb i] ++ [62] := by
          unfold textS
          rw [kidsS_end]
          simp [kidS]
        generalize textS x y i = s at hlen hnext ⊢
        unfold F5_154
        simp only [c5]
        rw [ad_s (by simp; omega), kb_ad (by omega)]
        refine bs1_ok ?_
        have fa : But h' ⟨h'.next + 1, h'.mem.put h'.next (some (.c (u8s [kb i]) 5 true))⟩ none := But.new _ _ _
        have ga : (⟨h'.next + 1, h'.mem.put h'.next (some (.c (u8s [kb i]) 5 true))⟩ : H).mem.get h'.next = some (.c (u8s [kb i]) 5 true) := get_same
        have na : (⟨h'.next + 1, h'.mem.put h'.next (some (.c (u8s [kb i]) 5 true))⟩ : H).next = h'.next + 1 := rfl
        generalize (⟨h'.next + 1, h'.mem.put h'.next (some (.c (u8s [kb i]) 5 true))⟩ : H) = g1 at fa ga na ⊢
        rw [show pw.cs (mkX Tryd.prog) 35 9 (.sl h'.next 0 1 1 false) g1 = fun κ => κ (.s [kb i]) from funext fun κ => cs_bs (bs := [kb i]) ga]
        dsimp only
        rw [ad_s (by simp; omega), ad_s (by simp; omega)]
        try simp only [cf_k]
        refine es_ok (by omega) (by omega) fun g2 fb => ?_
        rw [ad_s (by simp; omega), ad_s (by simp; omega), kb_ad (by omega)]
        refine bs1_ok ?_
        have fc : But g2 ⟨g2.next + 1, g2.mem.put g2.next (some (.c (u8s [kb i]) 5 true))⟩ none := But.new _ _ _
        have gc : (⟨g2.next + 1, g2.mem.put g2.next (some (.c (u8s [kb i]) 5 true))⟩ : H).mem.get g2.next = some (.c (u8s [kb i]) 5 true) := get_same
        generalize (⟨g2.next + 1, g2.mem.put g2.next (some (.c (u8s [kb i]) 5 true))⟩ : H) = g3 at fc gc ⊢
        rw [show pw.cs (mkX Tryd.prog) 35 9 (.sl g2.next 0 1 1 false) g3 = fun κ => κ (.s [kb i]) from funext fun κ => cs_bs (bs := [kb i]) gc]
        dsimp only
        rw [ad_s (by simp; omega), ad_s (by simp; omega)]
        have n12 := fb.1
        have e1 : (enCw g2 g3 (enCw h' g1 .l)).get g2.next = some (.c (u8s [kb i]) 5 true) := by
          show (((T.l.put h'.next (g1.mem.get h'.next)).put g2.next (g3.mem.get g2.next))).get g2.next = _
          rw [T.get_put, if_pos rfl, gc]
        have e2 : (enCw g2 g3 (enCw h' g1 .l)).get h'.next = some (.c (u8s [kb i]) 5 true) := by
          show (((T.l.put h'.next (g1.mem.get h'.next)).put g2.next (g3.mem.get g2.next))).get h'.next = _
          rw [T.get_put, if_neg (by omega), T.get_put, if_pos rfl, ga]
        have e3 : g2.mem.get h'.next = some (.c (u8s [kb i]) 5 true) := fb.get (by omega) (by simp) ga
        refine ck_ok (fun r hr => ?_) ?_
        · simp only [List.mem_cons, List.not_mem_nil, or_false] at hr
          rcases hr with rfl | rfl
          · refine ⟨againV (bs := [kb i]) (by rw [blt_no (by omega), cond_false, e1]), fun p hp => ?_⟩
            simp only [List.mem_cons, List.not_mem_nil, or_false] at hp
            subst hp
            exact againV (bs := [kb i]) (by rw [blt_no (Nat.le_refl _), cond_false, e1])
          · refine ⟨againV (bs := [kb i]) (by rw [blt_no (Nat.le_refl _), cond_false, e2]), fun p hp => ?_⟩
            simp only [List.mem_cons, List.not_mem_nil, or_false] at hp
            subst hp
            exact againV (bs := [kb i]) (by rw [blt_of (by simp only; omega), cond_true, e3])
        · unfold F5_160
          rw [ad_64 (by omega), show (i : Int) + 1 = ((i + 1 : Nat) : Int) by omega, ← hnext]
          exact ih (i + 1) g3 (by omega) (by omega) (((f.trans fa).trans fb).trans fc)
      · rw [decide_eq_false (show ¬ (i : Int) < N by omega), cd_f]
        obtain rfl : i = N := by omega
        exact tx_end hn hN (by omega) (by omega) (by omega) (by omega) px py (L.keep f (by simp)) fun h'' f'' => k h'' (f.trans f'')
  have e0 : [60, 114, 32, 107, 61, 39] ++ esc x ++ [39, 62] ++ esc x = textS x y 0 := by simp [textS, kidsS]
  rw [e0]
  exact go 100000 0 h3 (by omega) (by omega) f13
end Go.Proofs.YtbkhielalbbopaaDoor.Wb
