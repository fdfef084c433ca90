/- XmlPlain: the walk of the law. -/
import Derived.Test.YtbkhielalbbopaaDoorXl1
set_option linter.unusedSimpArgs false
set_option linter.unusedVariables false
set_option linter.unusedSectionVars false
set_option linter.unnecessarySimpa false
set_option maxRecDepth 100000
namespace Go.Proofs.YtbkhielalbbopaaDoor.Wb
open Go Go.Am Go.Am.Xm

def azB (c : UInt8) : Bool := decide (97 ≤ c.toNat) && decide (c.toNat ≤ 122)
theorem az_all : (List.range 256).all (fun n => !azB (UInt8.ofNat n) || (inS nmS (UInt8.ofNat n) && decide (Lib.indexByte mrS (UInt8.ofNat n) < 0))) = true := by decide +kernel
theorem az_nm {c : UInt8} (h : azB c = true) : inS nmS c = true ∧ Lib.indexByte mrS c < 0 := by
  have := List.all_eq_true.1 az_all c.toNat (List.mem_range.2 c.toNat_lt)
  have e : UInt8.ofNat c.toNat = c := by simp
  rw [e, h] at this
  simpa using this
theorem az_lim {c : UInt8} (h : azB c = true) : 97 ≤ c.toNat ∧ c.toNat ≤ 122 := by
  simpa [azB] using h
theorem az_ne {c d : UInt8} (h : azB c = true) (hd : d.toNat < 97) : c ≠ d := fun e => by
  have := az_lim h
  rw [e] at this
  omega

theorem lastB_at {a b : Bs} {c : UInt8} (hb : c ∉ b) : ∀ j, j ≤ b.length → lastB (a ++ c :: b) c (a.length + 1 + j) = a.length
  | 0, _ => by
    show (if (a ++ c :: b)[a.length]? = some c then _ else _) = _
    rw [if_pos (by rw [List.getElem?_append_right (Nat.le_refl _), Nat.sub_self]; rfl)]
  | j + 1, hj => by
    show (if (a ++ c :: b)[a.length + 1 + j]? = some c then _ else lastB (a ++ c :: b) c (a.length + 1 + j)) = _
    rw [if_neg, lastB_at hb j (by omega)]
    intro e
    rw [List.getElem?_append_right (by omega), show a.length + 1 + j - a.length = j + 1 by omega, List.getElem?_cons_succ] at e
    exact hb (List.mem_of_getElem? e)
theorem plainS_at {a b : Bs} (hb : (58 : UInt8) ∉ b) : plainS (a ++ 58 :: b) = b := by
  have h := lastB_at (a := a) hb b.length (Nat.le_refl _)
  unfold plainS
  have e : (a ++ 58 :: b).length = a.length + 1 + b.length := by simp; omega
  rw [e, h, show ((a.length : Int) + 1).toNat = a.length + 1 by omega]
  have : a ++ 58 :: b = (a ++ [58]) ++ b := by simp
  rw [this]
  exact List.drop_left' (by simp)

theorem NM.of {a b : Bs} (ha : ∀ c ∈ a, azB c = true) (hb : ∀ c ∈ b, azB c = true) : NM (a ++ [58] ++ b) b := by
  refine ⟨fun c hc => ?_, ?_, ?_, ?_⟩
  · simp only [List.mem_append, List.mem_singleton] at hc
    rcases hc with (hc | hc) | hc
    · exact (az_nm (ha c hc)).1
    · subst hc; decide
    · exact (az_nm (hb c hc)).1
  · cases a with
    | nil => exact ⟨58, b, rfl, by decide, by decide, by decide⟩
    | cons c a =>
      have h := ha c (List.mem_cons_self ..)
      exact ⟨c, a ++ [58] ++ b, rfl, az_ne h (by decide), az_ne h (by decide), az_ne h (by decide)⟩
  · cases a with
    | nil =>
      show decide (0 ≤ Lib.indexByte mrS 58) = false
      decide
    | cons c a =>
      have h := (az_nm (ha c (List.mem_cons_self ..))).2
      show decide (0 ≤ Lib.indexByte mrS c) = false
      exact decide_eq_false (by omega)
  · rw [List.append_assoc]
    exact plainS_at fun h => az_ne (hb _ h) (by decide) rfl

theorem pln_app {a b : Bs} (h1 : plnB a) (h2 : plnB b) : plnB (a ++ b) := fun c hc => by
  rcases List.mem_append.1 hc with hc | hc
  · exact h1 c hc
  · exact h2 c hc
theorem pln_az {a : Bs} (h : ∀ c ∈ a, azB c = true) : plnB a := fun c hc => by
  have := az_lim (h c hc)
  omega
theorem pln_lit {a : Bs} (h : (a.all fun c => decide (32 ≤ c.toNat) && decide (c.toNat < 128)) = true) : plnB a := fun c hc => by
  have := List.all_eq_true.1 h c hc
  simpa using this

/-- What is asked of the tree. -/
theorem pl_end {n : Nat} {b s : Bs} {how : Int} {h : H} {K : V → H → Prop} {r : Nat} {t0 t1 t2 t3 : Bs} (hn : 18 ≤ n) (L : Low h) (hg : h.mem.get r = some (.c [.s t0, .s t1, .s t2, .s t3] 9 true))
    (hs : ([t0, t1, t2, t3] : List Bs)[(how % 4).toNat]? = some s) (hp : plnB s) (hl : s.length ≤ 8192) (e : parseP 3 s = some (.node b [] [], 0)) (k : ∀ h', But h h' none → K (.b true) h') :
    pw.an (mkX Tryd.prog) 3 (.i .i64 how) (.i .i64 3) fun v46 => pw.is 1 (.sl r 0 4 4 false) v46 fun v47 => pw.l1 v47 h fun v48 => pw.cf (Ok Tryd.prog n) 10 [v48] h fun v51 h51 => pw.ex 0 v51 fun v53 => pw.ex 1 v51 fun v54 => pw.al (mkX Tryd.prog) 25 h51 fun v55 h55 => pw.sn 3 v55 v53 h55 fun h56 => pw.eq (mkX Tryd.prog) 26 v54 (.i .i64 0) fun v59 => pw.g1 v59 (fun κ => pw.fa 0 v55 fun v61 => κ v61 h56) h56 fun v62 h62 => pw.g1 v59 (fun κ => pw.l1 v62 h62 fun v63 => κ v63 h62) h62 fun v64 h64 => pw.g1 v59 (fun κ => κ (.s b) h64) h64 fun v66 h66 => pw.g1 v59 (fun κ => pw.eq (mkX Tryd.prog) 9 v64 v66 fun v67 => κ v67 h66) h66 fun v68 h68 => pw.pk v59 v68 (.b false) fun v69 => pw.g1 v69 (fun κ => pw.fa 1 v55 fun v71 => κ v71 h68) h68 fun v72 h72 => pw.g1 v69 (fun κ => pw.l1 v72 h72 fun v73 => κ v73 h72) h72 fun v74 h74 => pw.g1 v69 (fun κ => pw.eq (mkX Tryd.prog) 9 v74 (.s []) fun v75 => κ v75 h74) h74 fun v76 h76 => pw.pk v69 v76 (.b false) fun v77 => pw.g1 v77 (fun κ => pw.fa 2 v55 fun v79 => κ v79 h76) h76 fun v80 h80 => pw.g1 v77 (fun κ => pw.l1 v80 h80 fun v81 => κ v81 h80) h80 fun v82 h82 => pw.g1 v77 (fun κ => pw.ls (mkX Tryd.prog) 23 v82 fun v83 => κ v83 h82) h82 fun v84 h84 => pw.g1 v77 (fun κ => pw.eq (mkX Tryd.prog) 3 v84 (.i .i64 0) fun v85 => κ v85 h84) h84 fun v86 h86 => pw.pk v77 v86 (.b false) fun v87 => Bd h86 → K v87 h86 := by
  have hm : 0 ≤ how % 4 ∧ how % 4 < 4 := ⟨Int.emod_nonneg _ (by decide), Int.emod_lt_of_pos _ (by decide)⟩
  rw [an_3, is_sl1 hm, Nat.zero_add, l1_a (x := .s s) hg (by
    have h1 : ([V.s t0, .s t1, .s t2, .s t3] : List V) = ([t0, t1, t2, t3] : List Bs).map V.s := rfl
    rw [h1, List.getElem?_map, hs]; rfl)]
  simp only [cf_k]
  refine parse_ok (k := 3) (by omega) (by decide) hl hp e L fun h1 e1 f1 A => ?_
  simp only [ex_t, List.getElem?_cons_zero, List.getElem?_cons_succ, oP_some]
  obtain ⟨a1, a2, es, a3, _, a4⟩ := A
  have h0 : es = [] := a4
  subst h0
  obtain ⟨x1, x2, kv⟩ := e1
  simp only at a1 a2 a3
  subst a1
  subst a2
  refine al_a tt25 fun q h2 g2 f2 _ _ => ?_
  have one : (encT (x1, [], kv)).all oneV = true := by
    have : oneV kv = true := by
      obtain ⟨_, ⟨h1, _⟩ | ⟨_, _, _, _, h1, _⟩⟩ := a3 <;> rw [h1] <;> rfl
    show (true && (true && (oneV kv && true))) = true
    rw [this]; rfl
  refine sn_w g2 (cs := encT (x1, [], kv)) rfl rfl rfl one fun h3 g3 f3 => ?_
  have hv3 : VecE h1 kv 25 3 encT [] := a3
  simp only [eq_i, decide_true, g1_t, fa_p, Nat.zero_add]
  rw [l1_a g3 rfl, eq_s]
  simp only [beq_self_eq_true, pk_t, g1_t, fa_p, Nat.zero_add]
  rw [l1_a g3 rfl, eq_s]
  simp only [beq_self_eq_true, pk_t, g1_t, fa_p, Nat.zero_add]
  rw [l1_a g3 rfl, vece_len tt23 rfl hv3]
  simp only [List.length_nil, eq_i, pk_t]
  have : decide (((0 : Nat) : Int) = 0) = true := rfl
  rw [this]
  have := f1.1
  exact fun _ => k h3 ((f1.trans f2).over f3 (.inr fun z ez => by cases ez; omega))

theorem azc (c : UInt8) : (decide ((c.toNat : Int) < 97) || decide ((122 : Int) < (c.toNat : Int))) = !azB c := by
  unfold azB
  by_cases h1 : c.toNat < 97
  · rw [decide_eq_true (show (c.toNat : Int) < 97 by omega), decide_eq_false (show ¬ 97 ≤ c.toNat by omega)]; rfl
  · rw [decide_eq_false (show ¬ (c.toNat : Int) < 97 by omega), decide_eq_true (show 97 ≤ c.toNat by omega)]
    by_cases h2 : 122 < c.toNat
    · rw [decide_eq_true (show (122 : Int) < c.toNat by omega), decide_eq_false (show ¬ c.toNat ≤ 122 by omega)]; rfl
    · rw [decide_eq_false (show ¬ (122 : Int) < c.toNat by omega), decide_eq_true (show c.toNat ≤ 122 by omega)]; rfl

theorem plb_ok {n : Nat} {a b : Bs} {how : Int} {h : H} {K : V → H → Prop} (hl : b.length ≤ 20) (kt : Bd h → K (.b true) h) (k : (∀ c ∈ b, azB c = true) → F7_17 pw (mkX Tryd.prog) (Ok Tryd.prog n) (fun v h => Bd h → K v h) (.s a) (.s b) (.i .i64 how) h) :
    ∀ (m i : Nat), b.length - i < m → i ≤ b.length → (∀ c ∈ b.take i, azB c = true) → F7_90 pw (mkX Tryd.prog) (Ok Tryd.prog n) (fun v h => Bd h → K v h) m (.s a) (.s b) (.i .i64 how) (.i .i64 i) h := by
  intro m
  induction m with
  | zero => intro i hm; omega
  | succ m ih =>
    intro i hm hi hall
    rw [S7_90, lg_s tt9 rfl, lt_i]
    by_cases hlt : i < b.length
    · rw [decide_eq_true (show (i : Int) < b.length by omega), cd_t]
      have hsp : b[i]? = some (b[i]'hlt) := List.getElem?_eq_getElem hlt
      have hz := azc (b[i]'hlt)
      unfold F7_95
      rw [ix_s tt9 rfl hsp, lt_i]
      have next : azB (b[i]'hlt) = true → F7_100 pw (mkX Tryd.prog) (Ok Tryd.prog n) (fun v h => Bd h → K v h) (F7_90 pw (mkX Tryd.prog) (Ok Tryd.prog n) (fun v h => Bd h → K v h) m) (.s a) (.s b) (.i .i64 how) (.i .i64 i) h := by
        intro hc
        unfold F7_100
        rw [ad_64 (by omega), show (i : Int) + 1 = ((i + 1 : Nat) : Int) by omega]
        refine ih (i + 1) (by omega) (by omega) fun c hc' => ?_
        rw [List.take_add_one, hsp] at hc'
        rcases List.mem_append.1 hc' with h | h
        · exact hall c h
        · simp at h; rw [h]; exact hc
      cases h1 : decide (((b[i]'hlt).toNat : Int) < 97) with
      | true =>
        simp only [g0_t, pk_t, cd_t]
        exact kt
      | false =>
        simp only [g0_f]
        rw [ix_s tt9 rfl hsp, gt_i]
        rw [h1, Bool.false_or] at hz
        cases h2 : decide ((122 : Int) < ((b[i]'hlt).toNat : Int)) with
        | true =>
          simp only [pk_f, cd_t]
          exact kt
        | false =>
          simp only [pk_f, cd_f]
          rw [h2] at hz
          exact next (by simpa using hz.symm)
    · rw [decide_eq_false (show ¬ (i : Int) < b.length by omega), cd_f]
      rw [List.take_of_length_le (by omega)] at hall
      exact k hall
theorem pla_ok {n : Nat} {a b : Bs} {how : Int} {h : H} {K : V → H → Prop} (hl : a.length ≤ 20) (kt : Bd h → K (.b true) h) (k : (∀ c ∈ a, azB c = true) → F7_13 pw (mkX Tryd.prog) (Ok Tryd.prog n) (fun v h => Bd h → K v h) (.s a) (.s b) (.i .i64 how) h) :
    ∀ (m i : Nat), a.length - i < m → i ≤ a.length → (∀ c ∈ a.take i, azB c = true) → F7_128 pw (mkX Tryd.prog) (Ok Tryd.prog n) (fun v h => Bd h → K v h) m (.s a) (.s b) (.i .i64 how) (.i .i64 i) h := by
  intro m
  induction m with
  | zero => intro i hm; omega
  | succ m ih =>
    intro i hm hi hall
    rw [S7_128, lg_s tt9 rfl, lt_i]
    by_cases hlt : i < a.length
    · rw [decide_eq_true (show (i : Int) < a.length by omega), cd_t]
      have hsp : a[i]? = some (a[i]'hlt) := List.getElem?_eq_getElem hlt
      have hz := azc (a[i]'hlt)
      unfold F7_133
      rw [ix_s tt9 rfl hsp, lt_i]
      have next : azB (a[i]'hlt) = true → F7_138 pw (mkX Tryd.prog) (Ok Tryd.prog n) (fun v h => Bd h → K v h) (F7_128 pw (mkX Tryd.prog) (Ok Tryd.prog n) (fun v h => Bd h → K v h) m) (.s a) (.s b) (.i .i64 how) (.i .i64 i) h := by
        intro hc
        unfold F7_138
        rw [ad_64 (by omega), show (i : Int) + 1 = ((i + 1 : Nat) : Int) by omega]
        refine ih (i + 1) (by omega) (by omega) fun c hc' => ?_
        rw [List.take_add_one, hsp] at hc'
        rcases List.mem_append.1 hc' with h | h
        · exact hall c h
        · simp at h; rw [h]; exact hc
      cases h1 : decide (((a[i]'hlt).toNat : Int) < 97) with
      | true =>
        simp only [g0_t, pk_t, cd_t]
        exact kt
      | false =>
        simp only [g0_f]
        rw [ix_s tt9 rfl hsp, gt_i]
        rw [h1, Bool.false_or] at hz
        cases h2 : decide ((122 : Int) < ((a[i]'hlt).toNat : Int)) with
        | true =>
          simp only [pk_f, cd_t]
          exact kt
        | false =>
          simp only [pk_f, cd_f]
          rw [h2] at hz
          exact next (by simpa using hz.symm)
    · rw [decide_eq_false (show ¬ (i : Int) < a.length by omega), cd_f]
      rw [List.take_of_length_le (by omega)] at hall
      exact k hall

theorem how4 (how : Int) : how % 4 = 0 ∨ how % 4 = 1 ∨ how % 4 = 2 ∨ how % 4 = 3 := by omega

/-- XmlPlain, where 'awake' answers true. -/
theorem plain_law {n : Nat} (hn : 18 ≤ n) {a b : Bs} {how : Int} {h : H} {K : V → H → Prop} (L : Low h) (aw : ∀ {K : V → H → Prop}, (∀ h', But h h' none → K (.b true) h') → Ok Tryd.prog n 9 [] h K)
    (k : ∀ h', But h h' none → K (.b true) h') : Ok Tryd.prog (n + 1) 7 [.s a, .s b, .i .i64 how] h K := by
  refine Ok.bd (K7 fun hbd => ?_)
  unfold F7
  rw [cf_k]
  refine aw fun h1 f1 => ?_
  simp only [nt_b, Bool.not_true, cd_f]
  have kt : Bd h1 → K (.b true) h1 := fun _ => k h1 f1
  unfold F7_5
  rw [lg_s tt9 rfl, gt_i]
  by_cases hla : 20 < a.length
  · rw [decide_eq_true (show (20 : Int) < a.length by omega)]
    simp only [g0_t, pk_t, cd_t]
    exact kt
  rw [decide_eq_false (show ¬ (20 : Int) < a.length by omega)]
  simp only [g0_f, pk_f]
  rw [lg_s tt9 rfl, lt_i]
  by_cases hlb0 : b.length < 1
  · rw [decide_eq_true (show ((b.length : Nat) : Int) < 1 by omega)]
    simp only [g0_t, pk_t, cd_t]
    exact kt
  rw [decide_eq_false (show ¬ ((b.length : Nat) : Int) < 1 by omega)]
  simp only [g0_f, pk_f]
  rw [lg_s tt9 rfl, gt_i]
  by_cases hlb : 20 < b.length
  · rw [decide_eq_true (show (20 : Int) < b.length by omega)]
    simp only [cd_t]
    exact kt
  rw [decide_eq_false (show ¬ (20 : Int) < b.length by omega)]
  simp only [cd_f]
  unfold F7_9
  refine pla_ok (by omega) kt (fun ha => ?_) 100000 0 (by omega) (by omega) (by simp)
  unfold F7_13
  refine plb_ok (by omega) kt (fun hb => ?_) 100000 0 (by omega) (by omega) (by simp)
  have N := NM.of ha hb
  have hnl : (a ++ [58] ++ b).length ≤ 41 := by simp; omega
  have pn : plnB (a ++ [58] ++ b) := pln_app (pln_app (pln_az ha) (pln_lit (by decide))) (pln_az hb)
  unfold F7_17
  simp only [c7]
  rw [ad_s (by simp; omega), ad_s (by simp; omega)]
  generalize a ++ [58] ++ b = m at N hnl pn ⊢
  have lit : ∀ l : Bs, l.length ≤ 100 → l.length + m.length ≤ 1099511627776 := fun l hl => by omega
  rw [ad_s (by simp; omega), ad_s (by simp; omega), ad_s (by simp; omega), ad_s (by simp; omega), ad_s (by simp; omega), ad_s (by simp; omega), ad_s (by simp; omega), ad_s (by simp; omega), ad_s (by simp; omega), ad_s (by simp; omega), ad_s (by simp; omega), ad_s (by simp; omega)]
  refine bs_a (cs := [.s _, .s _, .s _, .s _]) (l := [(0, .s _), (1, .s _), (2, .s _), (3, .s _)]) tt38 rfl tt9 (by decide) rfl rfl fun q h2 g2 f2 _ _ => ?_
  have L2 : Low h2 := (L.keep f1 (by simp)).keep f2 (by simp)
  have kk : ∀ h', But h2 h' none → K (.b true) h' := fun h' f' => k h' ((f1.trans f2).trans f')
  rcases how4 how with h0 | h0 | h0 | h0
  · exact pl_end (s := [60] ++ m ++ [47, 62]) (by omega) L2 g2 (by rw [h0]; rfl) (pln_app (pln_app (pln_lit (by decide)) pn) (pln_lit (by decide))) (by simp; omega) (plain_0 N) kk
  · exact pl_end (s := [60] ++ m ++ [32, 120, 61, 39, 49, 39, 32, 32, 121, 32, 61, 32, 34, 50, 34, 32, 47, 62]) (by omega) L2 g2 (by rw [h0]; rfl) (pln_app (pln_app (pln_lit (by decide)) pn) (pln_lit (by decide))) (by simp; omega) (plain_1 N) kk
  · exact pl_end (s := [60, 33, 45, 45, 32, 99, 32, 45, 45, 62, 60] ++ m ++ [62, 60, 47] ++ m ++ [32, 62]) (by omega) L2 g2 (by rw [h0]; rfl) (pln_app (pln_app (pln_app (pln_app (pln_lit (by decide)) pn) (pln_lit (by decide))) pn) (pln_lit (by decide))) (by simp; omega) (plain_2 N) kk
  · exact pl_end (s := [60, 63, 120, 63, 62, 32, 60] ++ m ++ [62, 60, 33, 45, 45, 45, 45, 62, 60, 47] ++ m ++ [62, 60, 33, 45, 45, 32, 100, 32, 45, 45, 62]) (by omega) L2 g2 (by rw [h0]; rfl) (pln_app (pln_app (pln_app (pln_app (pln_lit (by decide)) pn) (pln_lit (by decide))) pn) (pln_lit (by decide))) (by simp; omega) (plain_3 N) kk
end Go.Proofs.YtbkhielalbbopaaDoor.Wb
