/- Addresses read and written. -/
import Derived.Test.YtbkhielalbbopaaGreatDoorYp3
set_option linter.unusedSimpArgs false
set_option linter.unusedVariables false
set_option linter.unusedSectionVars false
set_option linter.unnecessarySimpa false
set_option maxRecDepth 100000
namespace Go.Proofs.YtbkhielalbbopaaGreatDoor.Wb
open Go Go.Am Go.Am.Xm

structure NumD (d : Bs) (val : Nat) : Prop where
  dg : ∀ c ∈ d, ∃ m, m < 10 ∧ c = dg m
  ne : d ≠ []
  len : d.length ≤ 12
  z : ∀ p, 0 < p → p < d.length → 0 < valD 0 (d.take p)
  v : ∀ p, p ≤ d.length → valD 0 (d.take p) ≤ 255
  val : valD 0 d = val

theorem numD_all : (List.range 256).all (fun k => (List.range 4).all fun p => decide (valD 0 ((digs k).take p) ≤ 255) && (decide (p = 0) || decide ((digs k).length ≤ p) || decide (0 < valD 0 ((digs k).take p)))) = true := by kernel_rfl
theorem numD {k : Nat} (hk : k < 256) : NumD (digs k) k := by
  have hl : (digs k).length ≤ 3 := digs_len 2 k (by omega)
  have h1 := List.all_eq_true.1 numD_all k (List.mem_range.2 hk)
  have h2 : ∀ p, p < 4 → valD 0 ((digs k).take p) ≤ 255 ∧ (p = 0 ∨ (digs k).length ≤ p ∨ 0 < valD 0 ((digs k).take p)) := by
    intro p hp
    have h3 := List.all_eq_true.1 h1 p (List.mem_range.2 hp)
    simp only [Bool.and_eq_true, Bool.or_eq_true, decide_eq_true_eq] at h3
    omega
  refine ⟨digs_mem 2 k (by omega), digs_ne k, by omega, fun p h0 h3 => ?_, fun p h3 => (h2 p (by omega)).1, valD_digs 2 k (by omega)⟩
  have := (h2 p (by omega)).2
  omega

theorem num_loop {n : Nat} {d : Bs} {val : Nat} (hd : NumD d val) {h0 : H} {K : V → H → Prop} (k : ∀ h', But h0 h' none → K (.t [.i .i64 val, .b true]) h') :
    ∀ (m p : Nat) (h : H) (ri : Nat), d.length - p < m → p ≤ d.length → h.mem.get ri = some (.it d p) → But h0 h none → h0.next ≤ ri → ri < h.next →
    F126_25 pw (mkX Tryz.prog) (Ok Tryz.prog n) K m (.s d) (.i .i64 255) (.i .i64 (valD 0 (d.take p))) (.p ri 0) h := by
  intro m
  induction m with
  | zero => intro p h ri hm; omega
  | succ m ih =>
    intro p h ri hm hp hg f h0r h1
    rw [S126_25]
    by_cases hlt : p < d.length
    · rw [nx_t hg hlt]
      have hsp : d[p]? = some (d[p]'hlt) := List.getElem?_eq_getElem hlt
      obtain ⟨z, hz, e⟩ := hd.dg _ (List.getElem_mem hlt)
      have hb : (d[p]'hlt).toNat = 48 + z := by rw [e, dg_nat hz]
      rw [dec_lo hsp (by omega)]
      simp only [ex_t, List.getElem?_cons_zero, oP_some, cd_t]
      obtain ⟨f1, g1⟩ := put_it (b := .it d (p + 1)) h1
      have n1 : (putB h ri (.it d (p + 1))).next = h.next := rfl
      generalize putB h ri (.it d (p + 1)) = h2 at f1 g1 n1 ⊢
      have f2 : But h0 h2 none := f.over f1 (.inr fun z e => by cases e; exact h0r)
      unfold F126_32
      simp only [ex_t, List.getElem?_cons_zero, List.getElem?_cons_succ, oP_some]
      have hv := hd.v p hp
      rw [hb, lt_i, decide_eq_false (show ¬ (((48 + z : Nat) : Int) < 48) by omega)]
      simp only [g0_f]
      rw [gt_i, decide_eq_false (show ¬ (57 < ((48 + z : Nat) : Int)) by omega)]
      simp only [pk_f, g0_f]
      rw [gt_i]
      have hno : decide ((0 : Int) < (p : Int)) = true → decide (((valD 0 (d.take p) : Nat) : Int) = 0) = false := by
        intro h3
        have := hd.z p (by simpa using h3) hlt
        exact decide_eq_false (by omega)
      have step : F126_42 pw (mkX Tryz.prog) (Ok Tryz.prog n) K (F126_25 pw (mkX Tryz.prog) (Ok Tryz.prog n) K m) (.s d) (.i .i64 255) (.i .i64 (valD 0 (d.take p))) (.i .i32 ((48 + z : Nat) : Int)) (.p ri 0) h2 := by
        unfold F126_42
        have hs : ∀ κ : V → Prop, pw.sb (mkX Tryz.prog) 21 (.i .i32 ((48 + z : Nat) : Int)) (.i .i32 48) κ = κ (.i .i32 z) := by
          intro κ
          rw [sb_i, show ((48 + z : Nat) : Int) - 48 = (z : Int) by omega]
          congr 2
          simp [IntKind.wrap, IntKind.bits, IntKind.signed]
          omega
        rw [mu_64 (by omega), hs, ci_64 (by omega), ad_64 (by omega)]
        have hn2 : valD 0 (d.take (p + 1)) = 10 * valD 0 (d.take p) + z := by
          rw [List.take_add_one, hsp, Option.toList_some, valD_app, valD_cons, valD_nil, hb]
          omega
        rw [show (10 : Int) * (valD 0 (d.take p) : Nat) + (z : Int) = ((valD 0 (d.take (p + 1)) : Nat) : Int) by rw [hn2]; omega]
        exact ih (p + 1) h2 ri (by omega) (by omega) g1 f2 h0r (by omega)
      cases hq : decide ((0 : Int) < (p : Int)) with
      | true =>
        simp only [g1_t]
        rw [eq_i, hno hq]
        simp only [pk_t, pk_f, g0_f]
        rw [gt_i, decide_eq_false (show ¬ ((1000 : Int) < ((valD 0 (d.take p) : Nat) : Int)) by omega)]
        simp only [pk_f, cd_f]
        exact step
      | false =>
        simp only [g1_f, pk_f, g0_f]
        rw [gt_i, decide_eq_false (show ¬ ((1000 : Int) < ((valD 0 (d.take p) : Nat) : Int)) by omega)]
        simp only [pk_f, cd_f]
        exact step
    · rw [nx_f hg (by omega)]
      simp only [ex_t, List.getElem?_cons_zero, oP_some, cd_f]
      unfold F126_6
      have hne : (d == ([] : Bs)) = false := by simpa using hd.ne
      have hv := hd.v p hp
      rw [List.take_of_length_le (by omega)] at hv ⊢
      rw [ne_s, hne]
      simp only [Bool.not_false, g1_t]
      rw [le_i, decide_eq_true (show ((valD 0 d : Nat) : Int) ≤ 255 by omega)]
      simp only [pk_t]
      rw [hd.val]
      exact k h f

theorem num_ok {n : Nat} (hn : 1 ≤ n) {d : Bs} {val : Nat} (hd : NumD d val) {h : H} {K : V → H → Prop} (k : ∀ h', But h h' none → K (.t [.i .i64 val, .b true]) h') : Ok Tryz.prog n 126 [.s d, .i .i64 255] h K := by
  obtain ⟨n, rfl⟩ := Nat.exists_eq_add_of_le' hn
  refine Ok.bd (K126 fun hbd => ?_)
  unfold F126
  rw [rn_s tt9 rfl]
  have hl := hd.len
  exact num_loop hd (fun h' f => fun _ => k h' f) 100000 0 _ h.next (by omega) (by omega) get_same (But.new _ _ _) (Nat.le_refl _) (Nat.lt_succ_self _)

/-- One number of an address. -/
theorem prs_rnd {n m i : Nat} (hn : 1 ≤ n) {l : List Bs} {d : Bs} {val : Nat} (hi : i < 4) (hd : l[i]? = some d) (hl : l.length = 4) (hok : NumD d val) {h : H} {v5 v2 : V} {ra : Nat} {cur : List V} {K : V → H → Prop} (hbd : Bd h) (hv : VecE h v5 9 1 enc1 l)
    (hcur : h.mem.get ra = some (.c cur 41 true)) (hc4 : cur.length = 4) (hra : vblk v5 ≠ some ra) (hlt : ra < h.next)
    (k : ∀ h', Bd h' → But h h' (some ra) → VecE h' v5 9 1 enc1 l → h'.mem.get ra = some (.c (cur.set i (.i .u8 val)) 41 true) → F98_22 pw (mkX Tryz.prog) (Ok Tryz.prog n) K m v2 (.p ra 0) v5 (.i .i64 4) (.i .i64 ((i + 1 : Nat) : Int)) h') :
    F98_22 pw (mkX Tryz.prog) (Ok Tryz.prog n) K (m + 1) v2 (.p ra 0) v5 (.i .i64 4) (.i .i64 (i : Nat)) h := by
  rw [S98_22, lt_i, decide_eq_true (show ((i : Nat) : Int) < 4 by omega), cd_t]
  unfold F98_29
  have hi2 : i < l.length := by omega
  have hd2 : l[i]'hi2 = d := by rw [List.getElem?_eq_getElem hi2] at hd; exact Option.some.inj hd
  refine vece_at enc1_len hv rfl hi2 fun b ha => ?_
  rw [ha.get0 (x := .s d) (by rw [hd2]; rfl), cf_k]
  refine Ok.bd (num_ok hn hok fun h1 f1 hbd1 => ?_)
  simp only [ex_t, List.getElem?_cons_zero, List.getElem?_cons_succ, oP_some, nt_b, Bool.not_true, cd_f]
  unfold F98_55
  have hvv : val ≤ 255 := by
    have := hok.v d.length (Nat.le_refl _)
    rw [List.take_length, hok.val] at this
    exact this
  rw [ci_u8 (by omega), ir_p (by omega)]
  have hcur1 := f1.get hlt (by simp) hcur
  refine s1_a hcur1 (by omega) rfl fun h2 g2 f2 => ?_
  unfold F98_35
  rw [ad_64 (by omega), show (i : Int) + 1 = ((i + 1 : Nat) : Int) by omega]
  have e : 0 + ((i : Nat) : Int).toNat * 1 = i := by omega
  rw [e] at g2
  have f12 : But h h2 (some ra) := (f1.none _).trans f2
  exact k h2 (f12.2.2 hbd) f12 (hv.keep (hv.lt hbd) f12 (.inl hra)) g2

theorem spL_app : ∀ {d : Bs} {cur t : Bs}, (∀ c ∈ d, c ≠ 46) → spL cur (d ++ 46 :: t) = (cur ++ d) :: spL [] t
  | [], cur, t, _ => by simp [spL]
  | c :: d, cur, t, h => by
    have h1 := h c (List.mem_cons_self ..)
    rw [List.cons_append, spL, if_neg h1, spL_app fun x hx => h x (List.mem_cons_of_mem _ hx), List.append_assoc]
    rfl
theorem spL_end : ∀ {d : Bs} {cur : Bs}, (∀ c ∈ d, c ≠ 46) → spL cur d = [cur ++ d]
  | [], cur, _ => by simp [spL]
  | c :: d, cur, h => by
    have h1 := h c (List.mem_cons_self ..)
    rw [spL, if_neg h1, spL_end fun x hx => h x (List.mem_cons_of_mem _ hx), List.append_assoc]
    rfl
/-- A text of an address. -/
def adrT (a b c d : Nat) : Bs := digs a ++ 46 :: (digs b ++ 46 :: (digs c ++ 46 :: digs d))
theorem numD_no {d : Bs} {k : Nat} (h : NumD d k) : ∀ c ∈ d, c ≠ 46 := by
  intro c hc e
  obtain ⟨m, hm, e2⟩ := h.dg c hc
  have : (dg m).toNat = 48 + m := dg_nat hm
  rw [← e2, e] at this
  have : (46 : UInt8).toNat = 46 := rfl
  omega
theorem adrT_sp {a b c d : Nat} (ha : a < 256) (hb : b < 256) (hc : c < 256) (hd : d < 256) : spL [] (adrT a b c d) = [digs a, digs b, digs c, digs d] := by
  unfold adrT
  rw [spL_app (numD_no (numD ha)), spL_app (numD_no (numD hb)), spL_app (numD_no (numD hc)), spL_end (numD_no (numD hd))]
  rfl
theorem adrT_len {a b c d : Nat} (ha : a < 256) (hb : b < 256) (hc : c < 256) (hd : d < 256) : (adrT a b c d).length ≤ 15 := by
  have h1 := digs_len 2 a (by omega)
  have h2 := digs_len 2 b (by omega)
  have h3 := digs_len 2 c (by omega)
  have h4 := digs_len 2 d (by omega)
  simp only [adrT, List.length_append, List.length_cons]
  omega
theorem adrT_mem {a b c d : Nat} (ha : a < 256) (hb : b < 256) (hc : c < 256) (hd : d < 256) : ∀ x ∈ adrT a b c d, x = 46 ∨ ∃ m, m < 10 ∧ x = dg m := by
  intro x hx
  simp only [adrT, List.mem_append, List.mem_cons] at hx
  rcases hx with h | h | h | h | h | h | h
  · exact .inr ((numD ha).dg x h)
  · exact .inl h
  · exact .inr ((numD hb).dg x h)
  · exact .inl h
  · exact .inr ((numD hc).dg x h)
  · exact .inl h
  · exact .inr ((numD hd).dg x h)

/-- An address is read. -/
theorem parse_ok {n : Nat} (hn : 2 ≤ n) {a b c d : Nat} (ha : a < 256) (hb : b < 256) (hc : c < 256) (hd : d < 256) {h : H} {K : V → H → Prop} (k : ∀ h', But h h' none → K (.t [.a (encA ⟨a, b, c, d⟩), .i .i64 0]) h') :
    Ok Tryz.prog n 98 [.s (adrT a b c d)] h K := by
  obtain ⟨n, rfl⟩ := Nat.exists_eq_add_of_le' hn
  refine Ok.bd (K98 (n := n + 1) fun hbd => ?_)
  unfold F98
  refine al_a tt41 fun r2 h2 g2 f2 hr2 hr2' => ?_
  rw [cf_k]
  refine Ok.bd (parts_ok (by omega) (by have := adrT_len ha hb hc hd; omega) (fun x hx => ?_) fun h5 v5 f5 hv hbd5 => ?_)
  · rcases adrT_mem ha hb hc hd x hx with e | ⟨m, hm, e⟩
    · rw [e]; decide
    · rw [e, dg_nat hm]; omega
  rw [adrT_sp ha hb hc hd] at hv
  refine al_a tt41 fun r7 h7 g7 f7 hr7 hr7' => ?_
  have hv7 := hv.keep (hv.lt hbd5) f7 (.inr rfl)
  have hq7 : vblk v5 ≠ some r7 := fun e => by have := hv.lt hbd5 _ e; omega
  rw [vece_len tt59 rfl hv7, ne_i]
  simp only [List.length_cons, List.length_nil]
  rw [decide_eq_true (show ((0 + 1 + 1 + 1 + 1 : Nat) : Int) = 4 by omega)]
  simp only [Bool.not_true, cd_f]
  unfold F98_8
  rw [vece_len tt59 rfl hv7]
  have hbd7 := f7.2.2 hbd5
  refine prs_rnd (i := 0) (by omega) (by omega) rfl rfl (numD ha) hbd7 hv7 g7 rfl hq7 hr7' fun ha1 ba fa va ga => ?_
  refine prs_rnd (i := 1) (by omega) (by omega) rfl rfl (numD hb) ba va ga rfl hq7 (by have := fa.1; omega) fun hb1 bb fb vb gb => ?_
  refine prs_rnd (i := 2) (by omega) (by omega) rfl rfl (numD hc) bb vb gb rfl hq7 (by have := fa.1; have := fb.1; omega) fun hc1 bc fc vc gc => ?_
  refine prs_rnd (i := 3) (by omega) (by omega) rfl rfl (numD hd) bc vc gc rfl hq7 (by have := fa.1; have := fb.1; have := fc.1; omega) fun hd1 bd fd vd gd => ?_
  rw [S98_22, lt_i, decide_eq_false (show ¬ (((3 + 1 : Nat) : Int) < 4) by omega), cd_f]
  unfold F98_12
  have fz : But h7 hd1 (some r7) := ((fa.trans fb).trans fc).trans fd
  have n7 : r2 < h7.next := by have := f5.1; have := f7.1; omega
  have hne : r2 ≠ r7 := by have := f5.1; omega
  have g2' := fz.get n7 (fun e => hne (Option.some.inj e)) (f7.get (by have := f5.1; omega) (by simp) (f5.get hr2' (by simp) g2))
  have gd' : hd1.mem.get r7 = some (.c (encA ⟨a, b, c, d⟩) 41 true) := gd
  rw [ln_w (sz := 4) gd' rfl]
  refine sn_w (cs := encA ⟨a, b, c, d⟩) g2' rfl rfl rfl rfl fun he ge fe => ?_
  rw [ln_w (sz := 4) ge rfl]
  exact fun _ => k he (((f2.trans (f5.trans f7)).over fz (.inr fun z e => by cases e; have := f2.1; have := f5.1; omega)).over fe (.inr fun z e => by cases e; exact hr2))
/-- An address is written by the reference. -/
theorem atext_ok {n : Nat} (hn : 4 ≤ n) {a b c d : Nat} (ha : a < 256) (hb : b < 256) (hc : c < 256) (hd : d < 256) {h : H} {K : V → H → Prop} (k : ∀ h', But h h' none → K (.s (adrT a b c d)) h') :
    Ok Tryz.prog n 20 [.a (encA ⟨a, b, c, d⟩)] h K := by
  obtain ⟨n, rfl⟩ := Nat.exists_eq_add_of_le' hn
  refine Ok.bd (K20 (n := n + 3) fun hbd => ?_)
  unfold F20
  refine bx_a (cs := encA ⟨a, b, c, d⟩) rfl fun r h2 g2 f2 hr hr' => ?_
  have i0 : ∀ {m : Nat} {κ : V → Prop}, m < 4 → pw.ir 4 1 (.p r 0) (.i .i64 (m : Nat)) κ = κ (.p r m) := by
    intro m κ hm
    rw [ir_p (by omega), show 0 + ((m : Nat) : Int).toNat * 1 = m by omega]
  have l0 : ∀ {κ : V → Prop}, pw.l1 (.p r 0) h2 κ = κ (.i .u8 a) := l1_a g2 rfl
  have l1 : ∀ {κ : V → Prop}, pw.l1 (.p r 1) h2 κ = κ (.i .u8 b) := l1_a g2 rfl
  have l2 : ∀ {κ : V → Prop}, pw.l1 (.p r 2) h2 κ = κ (.i .u8 c) := l1_a g2 rfl
  have l3 : ∀ {κ : V → Prop}, pw.l1 (.p r 3) h2 κ = κ (.i .u8 d) := l1_a g2 rfl
  have e0 : ∀ {κ : V → Prop}, pw.ir 4 1 (.p r 0) (.i .i64 0) κ = κ (.p r 0) := i0 (m := 0) (by omega)
  have e1 : ∀ {κ : V → Prop}, pw.ir 4 1 (.p r 0) (.i .i64 1) κ = κ (.p r 1) := i0 (m := 1) (by omega)
  have e2 : ∀ {κ : V → Prop}, pw.ir 4 1 (.p r 0) (.i .i64 2) κ = κ (.p r 2) := i0 (m := 2) (by omega)
  have e3 : ∀ {κ : V → Prop}, pw.ir 4 1 (.p r 0) (.i .i64 3) κ = κ (.p r 3) := i0 (m := 3) (by omega)
  have x1 := digs_len 2 a (by omega)
  have x2 := digs_len 2 b (by omega)
  have x3 := digs_len 2 c (by omega)
  have x4 := digs_len 2 d (by omega)
  have dot : ∀ j, j = 4 ∨ j = 10 ∨ j = 16 → cstW (wL (wR (bdyW Tryz.f20))) j 1 = .s [46] := by
    intro j hj
    rcases hj with e | e | e <;> subst e <;> kernel_rfl
  rw [dot 4 (.inl rfl), dot 10 (.inr (.inl rfl)), dot 16 (.inr (.inr rfl))]
  rw [e0, l0, ci_64 (by omega), cf_k]
  have kp : ∀ {κ : V → H → Prop} {m : Nat} {h1 : H}, m < 256 → (∀ h', But h1 h' none → κ (.s (digs m)) h') → keepC (Ok Tryz.prog (n + 3)) 18 [.i .i64 m] h1 κ := by
    intro κ m h1 hm kk
    exact Ok.bd (rtext_ok 2 (by omega) m (by omega) (by omega) (by omega) fun h' f => fun hb' => ⟨fun q hq => f.2.1 q hq (by simp), kk h' f⟩)
  refine kp ha fun h7 f7 => ?_
  rw [ad_s (by simp; omega), e1, l1, ci_64 (by omega), cf_k]
  refine kp hb fun h12 f12 => ?_
  rw [ad_s (by simp; omega), ad_s (by simp; omega), e2, l2, ci_64 (by omega), cf_k]
  refine kp hc fun h18 f18 => ?_
  rw [ad_s (by simp; omega), ad_s (by simp; omega), e3, l3, ci_64 (by omega), cf_k]
  refine rtext_ok 2 (by omega) d (by omega) (by omega) (by omega) fun h24 f24 => ?_
  rw [ad_s (by simp; omega)]
  have e : digs a ++ [46] ++ digs b ++ [46] ++ digs c ++ [46] ++ digs d = adrT a b c d := by simp [adrT]
  rw [e]
  exact fun _ => k h24 ((((f2.trans f7).trans f12).trans f18).trans f24)
end Go.Proofs.YtbkhielalbbopaaGreatDoor.Wb
