/- XmlCut: a tree that is cut off is none; the walk of the law. -/
import Derived.Test.YtbkhielalbbopaaDoorXl3
import Derived.Test.YtbkhielalbbopaaDoorWy0
set_option linter.unusedSimpArgs false
set_option linter.unusedVariables false
set_option linter.unusedSectionVars false
set_option linter.unnecessarySimpa false
set_option maxRecDepth 100000
namespace Go.Proofs.YtbkhielalbbopaaDoor.Wb
open Go Go.Am Go.Am.Xm

def clnS (s : Bs) : Bs := s.filter fun b => decide (32 ≤ b.toNat) && decide (b.toNat < 127)
theorem clnS_pl (s : Bs) : plnB (clnS s) := fun c hc => by
  have := (List.mem_filter.1 hc).2
  simp at this
  omega
theorem clnS_len (s : Bs) : (clnS s).length ≤ s.length := List.length_filter_le _ _

/-- The law's 'clean'. -/
theorem cl_ok {n : Nat} (hn : 1 ≤ n) {s : Bs} (hl : s.length ≤ 1000) {h : H} {K : V → H → Prop} (k : K (.s (clnS s)) h) : Ok Tryd.prog n 16 [.s s] h K := by
  obtain ⟨n, rfl⟩ := Nat.exists_eq_add_of_le' hn
  refine Ok.bd (K16 fun hbd => ?_)
  unfold F16
  have go : ∀ (m i : Nat), s.length - i < m → i ≤ s.length → F16_9 pw (mkX Tryd.prog) (Ok Tryd.prog n) (fun v h => Bd h → K v h) m (.s s) (.s (clnS (s.take i))) (.i .i64 i) h := by
    intro m
    induction m with
    | zero => intro i hm; omega
    | succ m ih =>
      intro i hm hi
      show pw.lg _ _ _ _
      rw [lg_s tt9 rfl, lt_i]
      by_cases hlt : i < s.length
      · rw [decide_eq_true (show (i : Int) < s.length by omega), cd_t]
        have hsp : s[i]? = some (s[i]'hlt) := List.getElem?_eq_getElem hlt
        have hstep : clnS (s.take (i + 1)) = clnS (s.take i) ++ clnS [s[i]'hlt] := by
          unfold clnS
          rw [← List.filter_append, List.take_add_one, hsp]
          rfl
        have next : ∀ t : Bs, clnS (s.take (i + 1)) = t → F16_17 pw (mkX Tryd.prog) (Ok Tryd.prog n) (fun v h => Bd h → K v h) (F16_9 pw (mkX Tryd.prog) (Ok Tryd.prog n) (fun v h => Bd h → K v h) m) (.s s) (.s t) (.i .i64 i) h := by
          intro t ht
          unfold F16_17
          rw [ad_64 (by omega), show (i : Int) + 1 = ((i + 1 : Nat) : Int) by omega, ← ht]
          exact ih (i + 1) (by omega) (by omega)
        unfold F16_13
        rw [ix_s tt9 rfl hsp, ge_i]
        by_cases h1 : 32 ≤ (s[i]'hlt).toNat
        · rw [decide_eq_true (show (32 : Int) ≤ (s[i]'hlt).toNat by omega)]
          simp only [g1_t]
          rw [ix_s tt9 rfl hsp, lt_i]
          by_cases h2 : (s[i]'hlt).toNat < 127
          · rw [decide_eq_true (show ((s[i]'hlt).toNat : Int) < 127 by omega)]
            simp only [pk_t, cd_t]
            have hcl := clnS_len (s.take i)
            rw [List.length_take] at hcl
            rw [ad_64 (by omega), show (i : Int) + 1 = ((i + 1 : Nat) : Int) by omega, sc_s2 tt9 rfl (by omega) (by omega), ad_s (by rw [List.length_take]; omega)]
            refine next _ ?_
            rw [hstep, show i + 1 - i = 1 by omega]
            congr 1
            rw [List.drop_eq_getElem_cons hlt]
            unfold clnS
            rw [List.filter_cons_of_pos (by simp [h1, h2])]
            rfl
          · rw [decide_eq_false (show ¬ ((s[i]'hlt).toNat : Int) < 127 by omega)]
            simp only [pk_t, cd_f]
            refine next _ ?_
            rw [hstep]
            unfold clnS
            rw [List.filter_cons_of_neg (by simp [h2])]
            simp
        · rw [decide_eq_false (show ¬ (32 : Int) ≤ (s[i]'hlt).toNat by omega)]
          simp only [g1_f, pk_f, cd_f]
          refine next _ ?_
          rw [hstep]
          unfold clnS
          rw [List.filter_cons_of_neg (by simp [h1])]
          simp
      · rw [decide_eq_false (show ¬ (i : Int) < s.length by omega), cd_f]
        rw [List.take_of_length_le (by omega)]
        unfold F16_4
        exact fun _ => k
  exact go 100000 0 (by omega) (by omega)

def cutH : Bs := [60, 114, 32, 107, 61, 39, 49, 39, 62]
def cutT : Bs := [60, 107, 47, 62, 60, 109, 62, 120, 60, 47, 109, 62, 60, 47, 114, 62]
theorem NMr : NM [114] [114] := ⟨fun c hc => by simp at hc; subst hc; decide, ⟨114, [], rfl, by decide, by decide, by decide⟩, by decide, by decide⟩
theorem cut_op (R : Bs) : opL 100000 (32 :: 107 :: 61 :: 39 :: 49 :: 39 :: 62 :: R, false) = (false, (R, false)) := by
  have h := op_word (w := [49]) (Z := R) (by decide) (by kernel_rfl)
  rw [List.cons_append, List.nil_append] at h
  exact h
theorem cut_tree (R : Bs) {r : Option ((Bs × List XT) × PS × Int)} (hl : treeL (fun q e => treeP 3 2 q e) [114] 100000 [] [] (R, false) 1 = r) : treeP 4 1 (114 :: 32 :: 107 :: 61 :: 39 :: 49 :: 39 :: 62 :: R, false) 0 = r.map fun r => (.node [114] r.1.1 r.1.2, r.2.1, r.2.2) := by
  have hR : trimS nmS (32 :: 107 :: 61 :: 39 :: 49 :: 39 :: 62 :: R) = 32 :: 107 :: 61 :: 39 :: 49 :: 39 :: 62 :: R := by kernel_rfl
  have h := tree_in' (k := 3) (d := 1) (d0 := 0) (d1 := 2) (d2 := 1) NMr hR (by decide) (by decide) (cut_op R) hl
  rw [List.cons_append, List.nil_append] at h
  exact h
theorem cut_ah (R : Bs) : ahL 100000 false (cutH ++ R, false) = some (60 :: 114 :: 32 :: 107 :: 61 :: 39 :: 49 :: 39 :: 62 :: R, false) := ah_no (m := 99999) (by decide) (by decide)

theorem cut_tail (o : Bs) : (treeL (fun q e => treeP 3 2 q e) [114] 100000 o [] (cutT, false) 1).map (fun r => (r.2.1, r.2.2)) = some (([], false), 2) := by kernel_rfl
theorem cut_full {x o : Bs} (hu : unE x = some o) (h60 : (60 : UInt8) ∉ x) : ∃ t, parseP 4 (cutH ++ (x ++ cutT)) = some (t, 0) := by
  have h1 : treeL (fun q e => treeP 3 2 q e) [114] 100000 [] [] (x ++ cutT, false) 1 = treeL (fun q e => treeP 3 2 q e) [114] 100000 o [] (cutT, false) 1 := trl_text (m := 99999) (tx := []) hu h60
  have h2 := cut_tail o
  cases hr : treeL (fun q e => treeP 3 2 q e) [114] 100000 o [] (cutT, false) 1 with
  | none => rw [hr] at h2; cases h2
  | some r =>
    obtain ⟨⟨tx, ks⟩, p, d⟩ := r
    rw [hr] at h2 h1
    simp only [Option.map_some, Option.some.injEq, Prod.mk.injEq] at h2
    obtain ⟨rfl, rfl⟩ := h2
    have := cut_tree _ h1
    exact ⟨.node [114] tx ks, parse_at (c := []) (x := 0) (cut_ah _) this (show (2 : Int) ≤ 8 by decide) (tr_nil (m := 99999))⟩

theorem cut_closed : ∀ j, j ≤ 8 → parseP 4 (cutH.take j) = some (XT0, 9)
  | 0, _ => by kernel_rfl
  | 1, _ => by kernel_rfl
  | 2, _ => by kernel_rfl
  | 3, _ => by kernel_rfl
  | 4, _ => by kernel_rfl
  | 5, _ => by kernel_rfl
  | 6, _ => by kernel_rfl
  | 7, _ => by kernel_rfl
  | 8, _ => by kernel_rfl
  | j + 9, h => by omega

theorem cut_bad (o : Bs) : ∀ j, 1 ≤ j → j ≤ 15 → (treeL (fun q e => treeP 3 2 q e) [114] 100000 o [] (cutT.take j, false) 1).map (fun r => r.2.1.2) = some true
  | 0, h, _ => by omega
  | 1, _, _ => by kernel_rfl
  | 2, _, _ => by kernel_rfl
  | 3, _, _ => by kernel_rfl
  | 4, _, _ => by kernel_rfl
  | 5, _, _ => by kernel_rfl
  | 6, _, _ => by kernel_rfl
  | 7, _, _ => by kernel_rfl
  | 8, _, _ => by kernel_rfl
  | 9, _, _ => by kernel_rfl
  | 10, _, _ => by kernel_rfl
  | 11, _, _ => by kernel_rfl
  | 12, _, _ => by kernel_rfl
  | 13, _, _ => by kernel_rfl
  | 14, _, _ => by kernel_rfl
  | 15, _, _ => by kernel_rfl
  | j + 16, _, h => by omega

theorem cut_any {x o : Bs} (hu : unE x = some o) (h60 : (60 : UInt8) ∉ x) (j : Nat) (hj : j < (cutH ++ (x ++ cutT)).length) : parseP 4 ((cutH ++ (x ++ cutT)).take j) = some (XT0, 9) := by
  have hH : cutH.length = 9 := rfl
  have hT : cutT.length = 16 := rfl
  simp only [List.length_append, hH, hT] at hj
  by_cases h8 : j ≤ 8
  · rw [List.take_append_of_le_length (by omega)]
    exact cut_closed j h8
  rw [List.take_append, List.take_of_length_le (l := cutH) (by omega), hH]
  by_cases hx : j - 9 ≤ x.length
  · rw [List.take_append_of_le_length hx]
    have hn : cut1 60 (x.take (j - 9)) = none := by
      cases e : cut1 60 (x.take (j - 9)) with
      | none => rfl
      | some p =>
        obtain ⟨a, b⟩ := p
        have := (cut1_some e).1
        exact absurd (List.mem_of_mem_take (by rw [this]; simp)) h60
    have hl : treeL (fun q e => treeP 3 2 q e) [114] 100000 [] [] (x.take (j - 9), false) 1 = some (([], []), (x.take (j - 9), true), 1) := by
      rw [show (100000 : Nat) = 99999 + 1 from rfl, treeL, if_neg (by simp), hn]
    exact parse_bad (cut_ah _) (cut_tree _ hl) rfl
  · rw [List.take_append, List.take_of_length_le (l := x) (by omega)]
    obtain ⟨i, hi⟩ : ∃ i, j - 9 - x.length = i := ⟨_, rfl⟩
    rw [hi]
    have hb := cut_bad o i (by omega) (by omega)
    obtain ⟨R, hR⟩ : ∃ R, cutT.take i = 60 :: R := by
      obtain ⟨i', rfl⟩ : ∃ i', i = i' + 1 := ⟨i - 1, by omega⟩
      exact ⟨_, rfl⟩
    have h1 : treeL (fun q e => treeP 3 2 q e) [114] 100000 [] [] (x ++ cutT.take i, false) 1 = treeL (fun q e => treeP 3 2 q e) [114] 100000 o [] (cutT.take i, false) 1 := by
      rw [hR]
      exact trl_text (m := 99999) (tx := []) hu h60
    cases hr : treeL (fun q e => treeP 3 2 q e) [114] 100000 o [] (cutT.take i, false) 1 with
    | none => rw [hr] at hb; cases hb
    | some r =>
      obtain ⟨⟨tx, ks⟩, p, d⟩ := r
      rw [hr] at hb h1
      exact parse_bad (cut_ah _) (cut_tree _ h1) (by simpa using hb)

/-- XmlCut, where 'awake' answers true. -/
theorem cut_law {n : Nat} (hn : 20 ≤ n) {a : Bs} {cut : Int} {h : H} {K : V → H → Prop} (L : Low h) (aw : ∀ {K : V → H → Prop}, (∀ h', But h h' none → K (.b true) h') → Ok Tryd.prog n 9 [] h K)
    (k : ∀ h', But h h' none → K (.b true) h') : Ok Tryd.prog (n + 1) 8 [.s a, .i .i64 cut] h K := by
  refine Ok.bd (K8 fun hbd => ?_)
  unfold F8
  rw [cf_k]
  refine aw fun h1 f1 => ?_
  simp only [nt_b, Bool.not_true, cd_f]
  unfold F8_4
  rw [lg_s tt9 rfl, gt_i]
  by_cases hla : 100 < a.length
  · rw [decide_eq_true (show (100 : Int) < a.length by omega), cd_t]
    exact fun _ => k h1 f1
  rw [decide_eq_false (show ¬ (100 : Int) < a.length by omega), cd_f]
  unfold F8_7
  simp only [cf_k, c8]
  refine cl_ok (by omega) (by omega) ?_
  have lc := clnS_len a
  have le := esc_len (clnS a)
  refine es_ok (by omega) (by omega) fun h2 f2 => ?_
  have f2 := f1.trans f2
  rw [ad_s (by simp; omega), ad_s (by simp; omega)]
  have hu := unE_esc (clnS a)
  have h60 := esc60 (clnS a)
  have hpl := esc_pl (clnS_pl a)
  generalize esc (clnS a) = x at le hu h60 hpl ⊢
  have es : ([60, 114, 32, 107, 61, 39, 49, 39, 62] ++ x ++ [60, 107, 47, 62, 60, 109, 62, 120, 60, 47, 109, 62, 60, 47, 114, 62] : Bs) = cutH ++ (x ++ cutT) := by
    rw [List.append_assoc]; rfl
  rw [es]
  have hsl : (cutH ++ (x ++ cutT)).length = x.length + 25 := by
    simp only [List.length_append, show cutH.length = 9 from rfl, show cutT.length = 16 from rfl]; omega
  have hsp : plnB (cutH ++ (x ++ cutT)) := pln_app (pln_lit (by decide)) (pln_app hpl (pln_lit (by decide)))
  obtain ⟨t, ht⟩ := cut_full hu h60
  have hcut := cut_any hu h60
  generalize cutH ++ (x ++ cutT) = s at hsl hsp ht hcut ⊢
  rw [lt_i]
  by_cases hc0 : cut < 0
  · rw [decide_eq_true hc0]
    simp only [g0_t, pk_t, cd_t]
    exact fun _ => k h2 f2
  rw [decide_eq_false hc0]
  simp only [g0_f]
  rw [lg_s tt9 rfl, ge_i]
  by_cases hc1 : (s.length : Int) ≤ cut
  · rw [decide_eq_true hc1]
    simp only [pk_f, cd_t]
    exact fun _ => k h2 f2
  rw [decide_eq_false hc1]
  simp only [pk_f, cd_f]
  obtain ⟨j, rfl⟩ : ∃ j : Nat, cut = j := ⟨cut.toNat, by omega⟩
  unfold F8_16
  have low : ∀ {h' : H}, But h h' none → Low h' := fun f => L.keep f (fun q e => by cases e)
  rw [cf_k]
  refine parse_ok (k := 4) (by omega) (by decide) (by omega) hsp ht (low f2) fun h3 e3 f3 A3 => ?_
  have f3 := f2.trans f3
  simp only [ex_t, List.getElem?_cons_zero, List.getElem?_cons_succ, oP_some]
  have one : ∀ {h : H} {N : Nat → Prop} {t : XT} {e : Te}, TrA h N t e → (encT e).all oneV = true := by
    intro h N t e A
    cases t with
    | node nn tt kk =>
      obtain ⟨_, _, es', v7, _⟩ := A
      have : oneV e.2.2 = true := by
        obtain ⟨_, ⟨h1, _⟩ | ⟨_, _, _, _, h1, _⟩⟩ := v7 <;> rw [h1] <;> rfl
      show (true && (true && (oneV e.2.2 && true))) = true
      rw [this]; rfl
  refine al_a tt25 fun q h4 g4 f4 q0 _ => ?_
  refine sn_w g4 (cs := encT e3) rfl rfl rfl (one A3) fun h5 g5 f5 => ?_
  have f5 := (f3.trans f4).over f5 (.inr fun z ez => by cases ez; exact Nat.le_trans f3.1 q0)
  rw [sc_s0 tt9 rfl (by omega)]
  simp only [cf_k]
  refine parse_ok (k := 4) (by omega) (by decide) (by rw [List.length_take]; omega) (fun c hc => hsp c (List.mem_of_mem_take hc)) (hcut j (by omega)) (low f5) fun h6 e6 f6 A6 => ?_
  have f6 := f5.trans f6
  simp only [ex_t, List.getElem?_cons_zero, List.getElem?_cons_succ, oP_some]
  refine al_a tt25 fun q2 h7 g7 f7 q20 _ => ?_
  refine sn_w g7 (cs := encT e6) rfl rfl rfl (one A6) fun h8 g8 f8 => ?_
  have f8 := (f6.trans f7).over f8 (.inr fun z ez => by cases ez; exact Nat.le_trans f6.1 q20)
  simp only [eq_i, decide_true, g1_t, pk_t, fa_p, Nat.zero_add]
  obtain ⟨a1, _⟩ := A6
  obtain ⟨x1, x2, kv⟩ := e6
  simp only at a1
  subst a1
  rw [l1_a g8 rfl, eq_s]
  simp only [beq_self_eq_true, pk_t]
  exact fun _ => k h8 f8
end Go.Proofs.YtbkhielalbbopaaDoor.Wb
