/- No two live leases are of one address: the law's own small functions, and 'New'. -/
import Derived.Test.YtfkbofbdonmpfaaPr14
set_option linter.unusedSimpArgs false
set_option linter.unusedVariables false
set_option linter.unusedSectionVars false
set_option linter.unnecessarySimpa false
set_option maxRecDepth 100000
namespace Go.Proofs.Ytfkbofbdonmpfaa.Wb
open Go.Am

theorem atm_ok {n : Nat} (hn : 1 ≤ n) {a : Int} {h : H} {K : V → H → Prop} (hk : ∀ h', Bd h' → But h h' none → K (.a (adV (a % 256))) h') : Ok Try.prog n 41 [.i .i64 a] h K := by
  obtain ⟨n, rfl⟩ := Nat.exists_eq_add_of_le' hn
  refine Ok.bd (K41 fun hbd => ?_)
  simp (disch := omega) only [F41]
  refine al_a tt28 fun b h1 hg hb _ _ => ?_
  rw [ci_u8m]
  refine bl_a (v := .a (adV (a % 256))) ?_ ?_
  · simp only [blW, ti, tt28, tt5, placesArr, cellsOfV, fillA]; rfl
  refine sn_w (w := .a (adV (a % 256))) (cs := adV (a % 256)) hg rfl rfl rfl rfl fun h2 hg2 hb2 => ?_
  rw [ln_w (sz := 4) hg2 rfl]
  intro hbd'
  refine hk h2 hbd' (hb.over hb2 (.inr fun r e => ?_))
  cases e; assumption
theorem macm_ok {n : Nat} (hn : 1 ≤ n) {m : Int} {h : H} {K : V → H → Prop} (hk : ∀ h', Bd h' → But h h' none → K (.a (maV (m % 256))) h') : Ok Try.prog n 43 [.i .i64 m] h K := by
  obtain ⟨n, rfl⟩ := Nat.exists_eq_add_of_le' hn
  refine Ok.bd (K43 fun hbd => ?_)
  simp (disch := omega) only [F43]
  refine al_a tt53 fun b h1 hg hb _ _ => ?_
  rw [ci_u8m]
  refine bl_a (v := .a (maV (m % 256))) ?_ ?_
  · simp only [blW, ti, tt53, tt5, placesArr, cellsOfV, fillA]; rfl
  refine sn_w (w := .a (maV (m % 256))) (cs := maV (m % 256)) hg rfl rfl rfl rfl fun h2 hg2 hb2 => ?_
  rw [ln_w (sz := 6) hg2 rfl]
  intro hbd'
  refine hk h2 hbd' (hb.over hb2 (.inr fun r e => ?_))
  cases e; assumption

theorem at16_ok {n : Nat} (hn : 1 ≤ n) {q i : Nat} {x y : Int} {l : List V} {ty : TypeId} {w : Bool} {h : H} {K : V → H → Prop} (hq : h.mem.get q = some (.c l ty w)) (h0 : l[i]? = some (.i .u8 x)) (h1 : l[i + 1]? = some (.i .u8 y)) (hx : 0 ≤ x ∧ x ≤ 255) (hy : 0 ≤ y ∧ y ≤ 255) (hi : i + 1 < 4) (hk : Bd h → K (.i .i64 (x * 256 + y)) h) : Ok Try.prog n 151 [.sl q 0 4 4 false, .i .i64 (i : Nat)] h K := by
  obtain ⟨n, rfl⟩ := Nat.exists_eq_add_of_le' hn
  refine Ok.bd (K151 fun hbd => ?_)
  have r0 : ∀ κ : V → Prop, pw.l1 (.p q (0 + i)) h κ = κ (.i .u8 x) := fun κ => l1_a hq (by rw [Nat.zero_add]; exact h0)
  have r1 : ∀ κ : V → Prop, pw.l1 (.p q (0 + (i + 1))) h κ = κ (.i .u8 y) := fun κ => l1_a hq (by rw [Nat.zero_add]; exact h1)
  have n1 : ((i : Nat) : Int) + 1 = ((i + 1 : Nat) : Int) := rfl
  have i0 : ∀ κ : V → Prop, pw.is 1 (.sl q 0 4 4 false) (.i .i64 (i : Nat)) κ = κ (.p q (0 + i)) := fun κ => by rw [is_sl1 (by omega), Int.toNat_natCast]
  have i1 : ∀ κ : V → Prop, pw.is 1 (.sl q 0 4 4 false) (.i .i64 ((i + 1 : Nat) : Int)) κ = κ (.p q (0 + (i + 1))) := fun κ => by rw [is_sl1 (by omega), Int.toNat_natCast]
  have a1 : ∀ κ : V → Prop, pw.ad xx 3 (.i .i64 (i : Nat)) (.i .i64 1) κ = κ (.i .i64 ((i + 1 : Nat) : Int)) := fun κ => by rw [ad_64 (by omega)]; rfl
  simp (disch := omega) only [F151, i0, r0, ci_64, sl_8, a1, i1, r1, or_8]
  exact hk

theorem num51_ok {n : Nat} (hn : 3 ≤ n) {a : Int} (ha : 0 ≤ a ∧ a ≤ 255) {h : H} {K : V → H → Prop} (hk : ∀ h', Bd h' → But h h' none → K (.i .u32 (numA a)) h') : Ok Try.prog n 51 [.a (adV a)] h K := by
  obtain ⟨n, rfl⟩ := Nat.exists_eq_add_of_le' hn
  refine Ok.bd (K51 (n := n + 2) fun hbd => ?_)
  simp only [F51]
  refine bx_a (cs := adV a) rfl fun b h1 hg hb _ _ => ?_
  have e0 : ∀ κ : V → Prop, pw.ir 4 1 (.p b 0) (.i .i64 0) κ = κ (.p b 0) := fun κ => ir_p (by omega)
  have e1 : ∀ κ : V → Prop, pw.ir 4 1 (.p b 0) (.i .i64 1) κ = κ (.p b 1) := fun κ => ir_p (by omega)
  have e2 : ∀ κ : V → Prop, pw.ir 4 1 (.p b 0) (.i .i64 2) κ = κ (.p b 2) := fun κ => ir_p (by omega)
  have e3 : ∀ κ : V → Prop, pw.ir 4 1 (.p b 0) (.i .i64 3) κ = κ (.p b 3) := fun κ => ir_p (by omega)
  have r0 : ∀ κ : V → Prop, pw.l1 (.p b 0) h1 κ = κ (.i .u8 10) := fun κ => l1_a hg rfl
  have r1 : ∀ κ : V → Prop, pw.l1 (.p b 1) h1 κ = κ (.i .u8 0) := fun κ => l1_a hg rfl
  have r2 : ∀ κ : V → Prop, pw.l1 (.p b 2) h1 κ = κ (.i .u8 0) := fun κ => l1_a hg rfl
  have r3 : ∀ κ : V → Prop, pw.l1 (.p b 3) h1 κ = κ (.i .u8 a) := fun κ => l1_a hg rfl
  simp only [e0, e1, e2, e3, r0, r1, r2, r3]
  refine bs_a (cs := adV a) (l := [(0 * 1, .i .u8 10), (1 * 1, .i .u8 0), (2 * 1, .i .u8 0), (3 * 1, .i .u8 a)]) tt68 rfl tt5 (by decide) rfl rfl fun q h2 hq hb2 _ _ => ?_
  have hb02 := hb.trans hb2
  rw [cf_k]
  refine Ok.bd (K101 (n := n + 1) fun hbd2 => ?_)
  simp only [F101, cf_k]
  refine at16_ok (i := 0) (x := 10) (y := 0) (by omega) hq rfl rfl (by omega) (by omega) (by omega) fun _ => ?_
  have s16 : ∀ κ : V → Prop, pw.sl xx 59 (.i .u32 (10 * 256 + 0)) (.i .u64 16) κ = κ (.i .u32 (655360 * 256)) := fun κ => by
    rw [show (16 : Int) = ((16 : Nat) : Int) from rfl, sl_k 16 (by decide), wrap_u32']; rfl
  have a2 : ∀ κ : V → Prop, pw.ad xx 3 (.i .i64 0) (.i .i64 2) κ = κ (.i .i64 ((2 : Nat) : Int)) := fun κ => by rw [ad_64 (by omega)]; rfl
  have c1 : ∀ κ : V → Prop, pw.ci xx 3 59 .u32 (.i .i64 (10 * 256 + 0)) κ = κ (.i .u32 (10 * 256 + 0)) := fun κ => ci_u32 (by omega)
  simp only [c1, s16, a2]
  refine at16_ok (i := 2) (x := 0) (y := a) (by omega) hq rfl rfl (by omega) ha (by omega) fun _ => ?_
  have c2 : ∀ κ : V → Prop, pw.ci xx 3 59 .u32 (.i .i64 (0 * 256 + a)) κ = κ (.i .u32 a) := fun κ => by
    rw [ci_u32 (by omega)]; congr 2; omega
  have o2 : ∀ κ : V → Prop, pw.or xx 59 (.i .u32 (655360 * 256)) (.i .u32 a) κ = κ (.i .u32 (numA a)) := fun κ => by
    rw [or_8u (by omega)]; rfl
  simp only [c2, o2]
  intro hb2' hb1'
  exact hk h2 hb2' hb02

set_option maxHeartbeats 2000000 in
theorem newG_ok {n : Nat} (hn : 2 ≤ n) {q : Nat} {h : H} {K : V → H → Prop} (hq : h.mem.get q = some (.c (encL ⟨1, 15, 0⟩ ++ encL ⟨2, 40, 0⟩) 92 true)) (hk : ∀ r h', Bd h' → But h h' none → h.next ≤ r → PG h' r none FX [] 10 20 0 [] → K (.t [.p r 0, .i .i64 0]) h') : Ok Try.prog n 40 [.a (adV 10), .a (adV 20), .sl q 0 2 2 false] h K := by
  obtain ⟨n, rfl⟩ := Nat.exists_eq_add_of_le' hn
  refine Ok.bd (K40 (n := n + 1) fun hbd => ?_)
  have hql := hbd _ _ hq
  simp only [F40]
  refine bx_a (cs := adV 10) rfl fun p h3 hp hb3 _ hp2 => ?_
  refine bx_a (cs := adV 20) rfl fun p' h4 hp' hb4 _ hp2' => ?_
  have hpp := hb4.get hp2 (by simp) hp
  simp only [ln_w (sz := 4) hpp rfl, ln_w (sz := 4) hp' rfl, cf_k]
  refine num_ok (by omega) (by omega) fun h5 hbd5 hb5 => ⟨fun z hz => hb5.2.1 z hz (by simp), ?_⟩
  refine num_ok (by omega) (by omega) fun h6 hbd6 hb6 => ?_
  have hb06 := (hb3.trans hb4).trans (hb5.trans hb6)
  have sb : ∀ κ : V → Prop, pw.sb xx 59 (.i .u32 (numA 20)) (.i .u32 (numA 10)) κ = κ (.i .u32 10) := fun κ => by
    rw [sb_u32 (by simp only [numA]; omega)]
    rfl
  have d1 : decide (numA 20 < numA 10) = false := decide_eq_false (by simp only [numA]; omega)
  have lsn : ∀ (m : Nat) (κ : V → Prop), pw.ls xx 89 (.sl q 0 m 2 false) κ = κ (.i .i64 (m : Nat)) := fun m κ => ls_sl tt89 rfl
  have ls2 : ∀ κ : V → Prop, pw.ls xx 89 (.sl q 0 2 2 false) κ = κ (.i .i64 2) := lsn 2
  have ls1 : ∀ κ : V → Prop, pw.ls xx 89 (.sl q 0 1 2 false) κ = κ (.i .i64 1) := lsn 1
  have ls0 : ∀ κ : V → Prop, pw.ls xx 89 (.sl q 0 0 2 false) κ = κ (.i .i64 0) := lsn 0
  have sc0 : ∀ κ : V → Prop, pw.sc xx 89 (.sl q 0 2 2 false) none (some (.i .i64 0)) none κ = κ (.sl q 0 0 2 false) := fun κ => sc_sl (lo := 0) (hi := 0) tt89 rfl tt92 rfl rfl (by omega)
  have sc1 : ∀ κ : V → Prop, pw.sc xx 89 (.sl q 0 2 2 false) none (some (.i .i64 1)) none κ = κ (.sl q 0 1 2 false) := fun κ => sc_sl (lo := 0) (hi := 1) tt89 rfl tt92 rfl rfl (by omega)
  have vec : ∀ h', h'.mem.get q = some (.c (encL ⟨1, 15, 0⟩ ++ encL ⟨2, 40, 0⟩) 92 true) → VecE h' (.sl q 0 2 2 false) 92 11 encL FX := fun h' g => ⟨rfl, .inr ⟨q, 2, false, _, rfl, g, by simp [FX], rfl, rfl⟩⟩
  have vec1 : ∀ h', h'.mem.get q = some (.c (encL ⟨1, 15, 0⟩ ++ encL ⟨2, 40, 0⟩) 92 true) → VecE h' (.sl q 0 1 2 false) 92 11 encL [⟨1, 15, 0⟩] := fun h' g => ⟨rfl, .inr ⟨q, 2, false, _, rfl, g, by simp, rfl, rfl⟩⟩
  have hq6 := hb06.get hql (by simp) hq
  simp (disch := omega) only [ws, d1, sb, dec_f, F40_14, ls2]
  rw [show (100000 : Nat) = 99999 + 1 from rfl, S40_34]
  simp (disch := omega) only [ws, dec_t, F40_42]
  have q0 : ∀ κ : V → Prop, pw.ln 11 (.p q (0 + Int.toNat 0 * 11)) h6 κ = κ (.a (encL ⟨1, 15, 0⟩)) := fun κ => by rw [ln_a (sz := 11) hq6 (by simp [encL])]; rfl
  simp only [q0]
  refine al_a tt92 fun x1 h7 hx7 hb7 hx1 hx2 => ?_
  refine sn_w (w := .a (encL ⟨1, 15, 0⟩)) (cs := encL ⟨1, 15, 0⟩) hx7 rfl rfl rfl rfl fun h8 hx8 hb8 => ?_
  have hb68 : But h6 h8 none := hb7.over hb8 (.inr fun r e => by cases e; exact hx1)
  simp only [sc0, ls0]
  rw [show (100000 : Nat) = 99999 + 1 from rfl, S40_69]
  simp (disch := omega) only [ws, dec_f, F40_49]
  rw [show (99999 : Nat) = 99998 + 1 from rfl, S40_34]
  simp (disch := omega) only [ws, dec_t, F40_42]
  have hb08 := hb06.trans hb68
  have hq8 := hb08.get hql (by simp) hq
  have q1 : ∀ κ : V → Prop, pw.ln 11 (.p q (0 + Int.toNat (0 + 1) * 11)) h8 κ = κ (.a (encL ⟨2, 40, 0⟩)) := fun κ => by rw [ln_a (sz := 11) hq8 (by simp [encL])]; rfl
  simp only [q1]
  refine al_a tt92 fun x2 h9 hx9 hb9 hx3 hx4 => ?_
  refine sn_w (w := .a (encL ⟨2, 40, 0⟩)) (cs := encL ⟨2, 40, 0⟩) hx9 rfl rfl rfl rfl fun h10 hx10 hb10 => ?_
  have hb810 : But h8 h10 none := hb9.over hb10 (.inr fun r e => by cases e; exact hx3)
  have hb010 := hb08.trans hb810
  have hq10 := hb010.get hql (by simp) hq
  simp only [show (0 : Int) + 1 = 1 from rfl, sc1, ls1]
  rw [show (100000 : Nat) = 99999 + 1 from rfl, S40_69]
  simp (disch := omega) only [ws, dec_t, F40_81]
  have q2 : ∀ κ : V → Prop, pw.ln 11 (.p q (0 + Int.toNat 0 * 11)) h10 κ = κ (.a (encL ⟨1, 15, 0⟩)) := fun κ => by rw [ln_a (sz := 11) hq10 (by simp [encL])]; rfl
  simp only [q2]
  refine al_a tt92 fun x3 h11 hx11 hb11 hx5 hx6 => ?_
  refine sn_w (w := .a (encL ⟨1, 15, 0⟩)) (cs := encL ⟨1, 15, 0⟩) hx11 rfl rfl rfl rfl fun h12 hx12 hb12 => ?_
  have hb1012 : But h10 h12 none := hb11.over hb12 (.inr fun r e => by cases e; exact hx5)
  have hb012 := hb010.trans hb1012
  have hx12' := hb1012.get (Nat.lt_of_lt_of_le hx4 hb10.1) (by simp) hx10
  have m2 : ∀ κ : V → Prop, pw.ln 6 (.p x2 (0 + 0)) h12 κ = κ (.a (maV 2)) := fun κ => by rw [ln_a (sz := 6) hx12' (by simp [encL])]; rfl
  have m1 : ∀ κ : V → Prop, pw.ln 6 (.p x3 (0 + 0)) h12 κ = κ (.a (maV 1)) := fun κ => by rw [ln_a (sz := 6) hx12 (by simp [encL])]; rfl
  have a2 : ∀ κ : V → Prop, pw.ln 4 (.p x2 (0 + 6)) h12 κ = κ (.a (adV 40)) := fun κ => by rw [ln_a (sz := 4) hx12' (by simp [encL])]; rfl
  have a1 : ∀ κ : V → Prop, pw.ln 4 (.p x3 (0 + 6)) h12 κ = κ (.a (adV 15)) := fun κ => by rw [ln_a (sz := 4) hx12 (by simp [encL])]; rfl
  simp (disch := omega) only [ws, fa_p, m1, m2, a1, a2, eqm_ok, eqa_ok, dec_f, F40_92]
  rw [show (99999 : Nat) = 99998 + 1 from rfl, S40_69]
  simp (disch := omega) only [ws, dec_f, F40_49]
  rw [show (99998 : Nat) = 99997 + 1 from rfl, S40_34]
  simp (disch := omega) only [ws, dec_f, F40_18]
  refine K86 fun _ => ?_
  have e0 : ∀ κ : V → Prop, pw.eq xx 89 (.sl q 0 2 2 false) .ns κ = κ (.b false) := fun κ => by
    simp only [pw, bin, ti, tt89, eqOp, eqF, eqK, oP]
  simp only [F86, e0, cd_f, F86_3]
  refine bs_a (cs := []) (l := []) tt89 rfl tt92 (by decide) rfl rfl fun y h13 hy hb13 hy1 hy2 => ?_
  have hb013 := hb012.trans hb13
  have hq13 := hb013.get hql (by simp) hq
  refine ap_vec (cs := encL ⟨1, 15, 0⟩ ++ encL ⟨2, 40, 0⟩) (cells := []) (n := 0) (m := 2) tt89 rfl tt92 tt89 (by intro k e; cases e) rfl ?_ ⟨rfl, .inr ⟨y, 0, false, [], rfl, hy, by omega, rfl, rfl⟩⟩ rfl rfl (by unfold most; simp) (by unfold most; omega) fun v h14 hv hb14 hv1 => ?_
  · simp only [fcells, hq13]
    rfl
  have hb1314 : But h12 h14 none := hb13.over hb14 (.inr fun r e => by cases e; exact hy1)
  have hb014 := hb012.trans hb1314
  have hbd14 := hb014.2.2 hbd
  have hvE : VecE h14 v 92 11 encL FX := hv
  refine mk_a tt141 rfl fun mb h15 hm hb15 hm1 hm2 => ?_
  have one : oneV v = true := by rcases hv with ⟨_, ⟨rfl, _⟩ | ⟨_, _, _, _, rfl, _⟩⟩ <;> rfl
  have hcell : cellsOfV v = [v] := by rcases hv with ⟨_, ⟨rfl, _⟩ | ⟨_, _, _, _, rfl, _⟩⟩ <;> rfl
  refine bl_a (v := .a [.i .u32 (numA 10), .i .u32 (numA 20), v, .ns, .m mb, .i .i64 0]) ?_ ?_
  · rcases hv with ⟨_, ⟨rfl, _⟩ | ⟨_, _, _, _, rfl, _⟩⟩ <;> (simp only [blW, ti, tt144, placesSt, cellsOfV, List.getElem?_cons_zero, List.getElem?_cons_succ, fillA]; rfl)
  refine bx_a (cs := [.i .u32 (numA 10), .i .u32 (numA 20), v, .ns, .m mb, .i .i64 0]) rfl fun r h16 hr hb16 hr1 hr2 => ?_
  intro hbd16
  have hb1416 := hb15.trans hb16
  have hvl := hvE.lt hbd14
  refine hk r h16 hbd16 (hb014.trans hb1416) (Nat.le_trans (hb014.trans hb15).1 hr1) ⟨.ns, v, mb, 0, hr, ⟨rfl, .inl ⟨rfl, rfl⟩⟩, rfl, by simp, hb16.get hm2 (by simp) hm, (fun x hx => absurd hx (by simp)), hvE.keep hvl hb1416 (.inr rfl), fun e => ?_, fun z hz => by cases hz⟩
  have := hvl r e
  have := hb15.1
  omega
end Go.Proofs.Ytfkbofbdonmpfaa.Wb
