/- No two live mappings have one protocol and port: the law. -/
import Derived.Test.YtfkbofbdonmpfaaSo9
import Derived.Test.YtfkbofbdonmpfaaM5
set_option linter.unusedSimpArgs false
set_option linter.unusedVariables false
set_option linter.unusedSectionVars false
set_option linter.unnecessarySimpa false
set_option maxRecDepth 100000
namespace Go.Proofs.Ytfkbofbdonmpfaa.Wb
open Go.Am

def actP (x : List V) : Prop := ∃ op m f now secs, x = .i .i64 op :: (encM m ++ (encF f ++ [.i .i64 now, .i .i64 secs]))

theorem two_eq {es : List Mp} (h : two es) {a b : Mp} (ha : a ∈ es) (hb : b ∈ es) (e1 : a.p = b.p) (e2 : a.o = b.o) : a = b := by
  obtain ⟨i, hi, rfl⟩ := List.getElem_of_mem ha
  obtain ⟨j, hj, rfl⟩ := List.getElem_of_mem hb
  have h1 := List.pairwise_iff_getElem.1 h
  by_cases hij : i = j
  · subst hij; rfl
  · rcases Nat.lt_or_ge i j with h2 | h2
    · exact absurd ⟨e1, e2⟩ (h1 i j hi hj h2)
    · exact absurd ⟨e1.symm, e2.symm⟩ (h1 j i hj hi (by omega))
theorem nems {e : Mp} {κ : V → Prop} : pw.ne xx 30 (.a (encM e)) (.a (encM e)) κ = κ (.b false) := by
  obtain ⟨p, o, ⟨a, b, c, d⟩, i, k, u⟩ := e
  simp [encM, pw, bin, ti, tt30, eqOp, eqF, eqK, oP]
theorem tP_ge (now t : Int) : now ≤ timeP now t := by unfold timeP; split <;> omega
theorem tP_le {now t : Int} (h : now ≤ 1099511627776) : timeP now t ≤ 1099511627776 := by unfold timeP; split <;> omega
theorem tP_id (now t : Int) : timeP (timeP now t) t = timeP now t := by unfold timeP; split <;> (try split) <;> omega

set_option maxHeartbeats 4000000 in
theorem parts_law {n : Nat} (hn : 70 ≤ n) {v : V} {zs : List (List V)} {h0 : H} {K : V → H → Prop} (hz : ∀ z ∈ zs, actP z) (h120 : zs.length ≤ 120) (k : ∀ h', K (.b true) h') :
    ∀ (fuel i : Nat) (h : H) (r : Nat) (c : Option Nat) (tn : Int) (es : List Mp), zs.length < fuel + i → Bd h → FlatAt h 18 v zs → (∀ z, vblk v = some z → z < h.next ∧ z ≠ r ∧ c ≠ some z) → PT h r c 60000 40 tn es → Inv tn es → es.length ≤ i → i ≤ zs.length → 0 ≤ tn → tn ≤ 1099511627776 →
    F8_19 pw xx (Ok Try.prog n) K fuel v (.p r 0) (.i .i64 (i : Nat)) h := by
  intro fuel
  induction fuel with
  | zero => intro i h r c tn es a1 _ _ _ _ _ _ a2; omega
  | succ fuel ih =>
  intro i h r c tn es a1 hbd hfl hzv ht hI hlen a2 t0 t1
  rw [S8_19]
  simp (disch := omega) only [flat_len tt73 rfl hfl]
  by_cases hlt : i < zs.length
  rotate_left
  · simp (disch := omega) only [ws, dec_f, F8_16]
    exact k h
  have hzi : actP zs[i] := hz _ (List.getElem_mem hlt)
  obtain ⟨op, m, f, now, secs, hx⟩ := hzi
  have hxd : zs.getD i [] = .i .i64 op :: (encM m ++ (encF f ++ [.i .i64 now, .i .i64 secs])) := by
    rw [List.getD_eq_getElem?_getD, List.getElem?_eq_getElem hlt, Option.getD_some, hx]
  have T0 := tP_ge tn now
  have T1 := tP_le (t := now) t1
  have hbds := ht.lt hbd
  -- behind what is done: all that are live are told
  have rest : ∀ (h2 : H) (c2 : Option Nat) (es2 : List Mp), Bd h2 → But2 h h2 r c → (c2 = c ∨ ∃ z, c2 = some z ∧ h.next ≤ z) → PT h2 r c2 60000 40 (timeP tn now) es2 → PutR 40 (timeP tn now) es es2 →
      F8_34 pw xx (Ok Try.prog n) K (F8_19 pw xx (Ok Try.prog n) K fuel) v (.p r 0) (.i .i64 (i : Nat)) h2 := by
    intro h2 c2 es2 hbd2 f2 hc2 ht2 hp
    obtain ⟨hI2, hl2⟩ := (hI.later T0).put hp
    have hfl2 : FlatAt h2 18 v zs := hfl.keep2 hzv f2
    have hzv2 : ∀ z, vblk v = some z → z < h2.next ∧ z ≠ r ∧ c2 ≠ some z := fun z e => by
      obtain ⟨b1, b2, b3⟩ := hzv z e
      refine ⟨Nat.lt_of_lt_of_le b1 f2.1, b2, ?_⟩
      rcases hc2 with e | ⟨y, e, hy⟩
      · rw [e]; exact b3
      · rw [e]; intro e2; have := Option.some.inj e2; omega
    unfold F8_34
    refine flat_at hfl2 rfl hlt hxd rfl fun b o ha => ?_
    have rn : ∀ κ : V → Prop, pw.l1 (.p b (o + 16)) h2 κ = κ (.i .i64 now) := fun κ => ha.get (f := 16) rfl
    rw [fa_p, rn, cf_k]
    have eT := tP_id tn now
    refine all_ok (by omega) (by omega) (by rw [eT]; exact hI2.cnt) hI2.dis ht2 fun h3 w g hbd3 f3 ht3 hd3 hs3 hdd hm3 hw3 => ?_
    rw [eT] at ht3 hd3 hs3 hdd hm3
    have hcnt := hI2.cnt
    generalize hN : (liv (timeP tn now) es2).length = N at hd3 hs3 hdd hm3 hcnt
    have n3 := f3.1
    have hzv3 : ∀ z, vblk v = some z → z < h3.next ∧ z ≠ r ∧ c2 ≠ some z := fun z e => by
      obtain ⟨b1, b2, b3⟩ := hzv2 z e
      exact ⟨by omega, b2, b3⟩
    have hr2 := (ht2.lt hbd2).1
    have hwr : vblk w ≠ some r := fun e => by have := hw3 r e; omega
    have hfl3 : FlatAt h3 18 v zs := hfl2.keep (fun z e => (hzv2 z e).1) f3 (.inl fun e => (hzv2 r e).2.1 rfl)
    have inner : ∀ (fu x : Nat) (h' : H), N < fu + x → x ≤ N → Bd h' → But h3 h' (some r) → PT h' r c2 60000 40 (timeP tn now) es2 →
        F8_47 pw xx (Ok Try.prog n) K (F8_19 pw xx (Ok Try.prog n) K fuel) fu v (.p r 0) (.i .i64 (i : Nat)) w (.i .i64 (x : Nat)) h' := by
      intro fu
      induction fu with
      | zero => intro x h' b1 b2; omega
      | succ fu ihx =>
      intro x h' b1 b2 hbd' f' ht'
      rw [S8_47]
      have hd' : D h' w N g := hd3.frame hbd3 f' hwr
      have hfl' : FlatAt h' 18 v zs := hfl3.keep (fun z e => (hzv3 z e).1) f' (.inl fun e => (hzv3 r e).2.1 rfl)
      rw [vece_len tt76 rfl hd', fl_len]
      by_cases hxn : x < N
      rotate_left
      · simp (disch := omega) only [ws, dec_f, F8_27]
        rw [show (i : Int) + 1 = ((i + 1 : Nat) : Int) by omega]
        exact ih (i + 1) h' r c2 _ es2 (by omega) hbd' hfl' (fun z e => by
          obtain ⟨b1, b2, b3⟩ := hzv3 z e
          exact ⟨Nat.lt_of_lt_of_le b1 f'.1, b2, b3⟩) ht' hI2 (by omega) (by omega) (by omega) T1
      simp (disch := omega) only [ws, dec_t]
      have told : F8_68 pw xx (Ok Try.prog n) K (F8_19 pw xx (Ok Try.prog n) K fuel) (F8_47 pw xx (Ok Try.prog n) K (F8_19 pw xx (Ok Try.prog n) K fuel) fu) v (.p r 0) (.i .i64 (i : Nat)) w (.i .i64 (x : Nat)) h' := by
        unfold F8_68
        refine d_at hd' rfl hxn fun b3 ha3 => ?_
        have x0 : ∀ κ : V → Prop, pw.l1 (.p b3 (x * 9 + 0)) h' κ = κ (.i .i64 (g x).p) := fun κ => ha3.get (f := 0) rfl
        rw [fa_p, x0]
        refine d_at hd' rfl hxn fun b4 ha4 => ?_
        have x1 : ∀ κ : V → Prop, pw.l1 (.p b4 (x * 9 + 1)) h' κ = κ (.i .i64 (g x).o) := fun κ => ha4.get (f := 1) rfl
        rw [fa_p, x1]
        refine flat_at hfl' rfl hlt hxd rfl fun b5 o5 ha5 => ?_
        have rn' : ∀ κ : V → Prop, pw.l1 (.p b5 (o5 + 16)) h' κ = κ (.i .i64 now) := fun κ => ha5.get (f := 16) rfl
        rw [fa_p, rn', cf_k]
        have hmem := hm3 x hxn
        obtain ⟨hm1, hm2⟩ := List.mem_filter.1 hmem
        have hfd : fdE (g x).p (g x).o (timeP tn now) (g x) = true := by simp [fdE, hm2]
        refine in_ok (by omega) ht' (by omega) (fun h4 _ _ _ hneg => ?_) fun h4 j hbd4 f4 ht4 hj _ hfe => ?_
        · rw [eT] at hneg
          have := fndP_neg hneg (g x) hm1
          rw [hfd] at this
          cases this
        · rw [eT] at ht4 hfe
          have hsame : es2[j] = g x := by
            simp only [fdE, Bool.and_eq_true, decide_eq_true_eq] at hfe
            exact two_eq hI2.dis (List.getElem_mem _) hm1 hfe.1 hfe.2.1
          rw [hsame]
          simp only [ex_t, List.getElem?_cons_zero, List.getElem?_cons_succ, oP_some]
          refine al_a tt30 fun q h5 g5 f5 hq hq' => ?_
          refine sn_w (sz := 9) (cs := encM (g x)) g5 rfl rfl rfl rfl fun h6 g6 f6 => ?_
          have f46 : But h4 h6 none := f5.over f6 (.inr fun z e => by cases e; exact hq)
          have f36 : But h3 h6 (some r) := (f'.trans f4).trans (f46.none _)
          have hd6 : D h6 w N g := hd3.frame hbd3 f36 hwr
          have hbd6 := f46.2.2 hbd4
          simp (disch := omega) only [ws, Bool.not_true, ln_w (sz := 9) g6 rfl]
          refine d_rd hd6 rfl hxn ?_
          try simp (disch := omega) only [ws]
          rw [nems]
          simp (disch := omega) only [ws, F8_59]
          rw [show (x : Int) + 1 = ((x + 1 : Nat) : Int) by omega]
          exact ihx (x + 1) h6 (by omega) (by omega) hbd6 f36 (ht4.keep hbd4 f46)
      unfold F8_53
      by_cases hx0 : x = 0
      · subst hx0
        simp (disch := omega) only [ws, dec_f]
        exact told
      · have hord : lt (g (x - 1)) (g x) := by
          rcases hdd (x - 1) x (by omega) hxn (by omega) with e | e
          · exact e
          · exact absurd e (hs3 (x - 1) x (by omega) (by omega) hxn)
        simp (disch := omega) only [ws, dec_t]
        refine d_at hd' rfl hxn fun b3 ha3 => ?_
        have x0 : ∀ κ : V → Prop, pw.l1 (.p b3 (x * 9 + 0)) h' κ = κ (.i .i64 (g x).p) := fun κ => ha3.get (f := 0) rfl
        simp (disch := omega) only [ws, x0]
        refine d_at hd' (i := x - 1) (by omega) (by omega) fun b4 ha4 => ?_
        have y0 : ∀ κ : V → Prop, pw.l1 (.p b4 ((x - 1) * 9 + 0)) h' κ = κ (.i .i64 (g (x - 1)).p) := fun κ => ha4.get (f := 0) rfl
        have c1 : ¬ (g x).p < (g (x - 1)).p := by unfold lt at hord; omega
        simp (disch := omega) only [ws, y0, dec_f c1]
        refine d_at hd' rfl hxn fun b5 ha5 => ?_
        have x0' : ∀ κ : V → Prop, pw.l1 (.p b5 (x * 9 + 0)) h' κ = κ (.i .i64 (g x).p) := fun κ => ha5.get (f := 0) rfl
        simp (disch := omega) only [ws, x0']
        refine d_at hd' (i := x - 1) (by omega) (by omega) fun b6 ha6 => ?_
        have y0' : ∀ κ : V → Prop, pw.l1 (.p b6 ((x - 1) * 9 + 0)) h' κ = κ (.i .i64 (g (x - 1)).p) := fun κ => ha6.get (f := 0) rfl
        by_cases c2 : (g x).p = (g (x - 1)).p
        · simp (disch := omega) only [ws, y0', dec_t c2]
          refine d_at hd' rfl hxn fun b7 ha7 => ?_
          have x1 : ∀ κ : V → Prop, pw.l1 (.p b7 (x * 9 + 1)) h' κ = κ (.i .i64 (g x).o) := fun κ => ha7.get (f := 1) rfl
          simp (disch := omega) only [ws, x1]
          refine d_at hd' (i := x - 1) (by omega) (by omega) fun b8 ha8 => ?_
          have y1 : ∀ κ : V → Prop, pw.l1 (.p b8 ((x - 1) * 9 + 1)) h' κ = κ (.i .i64 (g (x - 1)).o) := fun κ => ha8.get (f := 1) rfl
          have c3 : ¬ (g x).o ≤ (g (x - 1)).o := by unfold lt at hord; omega
          simp (disch := omega) only [ws, y1, dec_f c3]
          exact told
        · simp (disch := omega) only [ws, y0', dec_f c2]
          exact told
    exact inner 100000 0 h3 (by omega) (by omega) hbd3 (But.refl _ _) ht3
  simp (disch := omega) only [ws, dec_t, F8_23]
  refine flat_at hfl rfl hlt hxd rfl fun b o ha => ?_
  have r0 : ∀ κ : V → Prop, pw.l1 (.p b (o + 0)) h κ = κ (.i .i64 op) := fun κ => ha.get (f := 0) rfl
  simp (disch := omega) only [ws, r0]
  by_cases hop : op % 2 = 0
  · simp (disch := omega) only [ws, dec_t hop]
    refine flat_at hfl rfl hlt hxd rfl fun b1 o1 ha1 => ?_
    have rm : ∀ κ : V → Prop, pw.ln 9 (.p b1 (o1 + 1)) h κ = κ (.a (encM m)) := fun κ => by rw [ha1.getn (f := 1) (n := 9) (by omega)]; rfl
    rw [fa_p, rm]
    refine flat_at hfl rfl hlt hxd rfl fun b2 o2 ha2 => ?_
    have rn : ∀ κ : V → Prop, pw.l1 (.p b2 (o2 + 16)) h κ = κ (.i .i64 now) := fun κ => ha2.get (f := 16) rfl
    rw [fa_p, rn]
    exact put_any (by omega) (by omega) ht fun h2 c2 es2 _ hbd2 f2 hc2 ht2 hp => rest h2 c2 es2 hbd2 f2 hc2 ht2 hp
  · simp (disch := omega) only [ws, dec_f hop]
    refine flat_at hfl rfl hlt hxd rfl fun b1 o1 ha1 => ?_
    have rm : ∀ κ : V → Prop, pw.ln 6 (.p b1 (o1 + 10)) h κ = κ (.a (encF f)) := fun κ => by rw [ha1.getn (f := 10) (n := 6) (by omega)]; rfl
    rw [fa_p, rm]
    refine flat_at hfl rfl hlt hxd rfl fun b2 o2 ha2 => ?_
    have rn : ∀ κ : V → Prop, pw.l1 (.p b2 (o2 + 16)) h κ = κ (.i .i64 now) := fun κ => ha2.get (f := 16) rfl
    rw [fa_p, rn]
    refine flat_at hfl rfl hlt hxd rfl fun b3 o3 ha3 => ?_
    have rs : ∀ κ : V → Prop, pw.l1 (.p b3 (o3 + 17)) h κ = κ (.i .i64 secs) := fun κ => ha3.get (f := 17) rfl
    rw [fa_p, rs]
    exact make_ok (by omega) ht (by omega) (by omega) ⟨by omega, T1⟩ fun h2 c2 es2 _ hbd2 f2 hc2 ht2 hp => rest h2 c2 es2 hbd2 f2 hc2 ht2 (mk_put hp)

set_option maxHeartbeats 4000000 in
theorem portsApart_ok (aw : (sem (mkX Try.prog) 100000 99 23 [] ⟨17, .l⟩).map (·.1) = some (.b true)) {u : V} {zs : List (List V)} {h : H} (hh : h.next = 17) (hz : FlatAt h 18 u zs) (hzs : ∀ z ∈ zs, actP z) : Ok Try.prog 100 8 [u] h (fun v _ => v = .b true) := by
  refine K8 (n := 99) fun hbd => ?_
  simp (disch := omega) only [F8, cf_k]
  refine ok_true' aw hh fun h1 hbd1 f1 => ?_
  have hz1 := hz.keep (hz.lt hbd) f1 (.inr rfl)
  simp (disch := omega) only [ws, Bool.not_true, F8_3, flat_len tt73 rfl hz1]
  by_cases c1 : (120 : Int) < zs.length
  · simp (disch := omega) only [ws, dec_t c1]
  simp (disch := omega) only [ws, dec_f c1, F8_5]
  refine new_ok (by omega) (by omega) (by omega) fun r h2 hbd2 f2 hr ht2 => ?_
  simp (disch := omega) only [ws, List.getElem?_cons_zero, List.getElem?_cons_succ, Bool.not_true, F8_13, decide_true]
  have hz2 := hz1.keep (hz1.lt hbd1) f2 (.inr rfl)
  exact parts_law (h0 := h) (by omega) hzs (by omega) (fun _ => rfl) 100000 0 h2 r none 0 [] (by omega) hbd2 hz2 (fun z e => by
    have h3 := hz1.lt hbd1 z e
    exact ⟨Nat.lt_of_lt_of_le h3 f2.1, by omega, by simp⟩) ht2 ⟨List.Pairwise.nil, by decide⟩ (Nat.le_refl _) (Nat.zero_le _) (by omega) (by omega)

theorem actP_of {x : List V} (h : ∃ cs, IntsAs [.i64, .i64, .i64, .u8, .u8, .u8, .u8, .i64, .i64, .i64, .i64, .u8, .u8, .u8, .u8, .i64, .i64, .i64] cs ∧ x = cs.map vOf) : actP x := by
  obtain ⟨cs, h, rfl⟩ := h
  iterate 18 (rcases h with _ | ⟨_, h⟩)
  rcases h with _ | _
  exact ⟨_, ⟨_, _, ⟨_, _, _, _⟩, _, _, _⟩, ⟨_, ⟨_, _, _, _⟩, _⟩, _, _, rfl⟩
end Go.Proofs.Ytfkbofbdonmpfaa.Wb
