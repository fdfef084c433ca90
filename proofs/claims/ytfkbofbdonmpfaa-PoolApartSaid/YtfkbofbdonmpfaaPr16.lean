/- No two live leases are of one address: the law. -/
import Derived.Test.YtfkbofbdonmpfaaPr15
set_option linter.unusedSimpArgs false
set_option linter.unusedVariables false
set_option linter.unusedSectionVars false
set_option linter.unnecessarySimpa false
set_option maxRecDepth 100000
namespace Go.Proofs.Ytfkbofbdonmpfaa.Wb
open Go.Am

/-- What is told is looked through. -/
theorem seen_ok {u : V} {r : Nat} {k : Int} {ls : List Le} (hd : ls.Pairwise fun x y => x.a ≠ y.a ∧ x.m ≠ y.m) (hl : ls.length ≤ 12) (ho : ∀ e ∈ ls, (e.m = 1 ∧ e.a = 15) ∨ (e.m = 2 ∧ e.a = 40) ∨ (10 ≤ e.a ∧ e.a ≤ 20 ∧ e.a ≠ 15)) {v : V} {h : H} (hbd : Bd h) (hv : VecE h v 92 11 encL ls) (i28 : V → V → V → H → Prop)
    (hk : ∀ h', Bd h' → But h h' none → F13_36 pw xx (Ok Try.prog 99) (fun v _ => v = .b true) i28 u (.p r 0) (.i .i64 k) h') : F13_60 pw xx (Ok Try.prog 99) (fun v _ => v = .b true) i28 100000 u (.p r 0) (.i .i64 k) v (.i .i64 0) h := by
  have loop : ∀ (fuel j : Nat) (h6 : H), ls.length < fuel + j → j ≤ ls.length → Bd h6 → But h h6 none → F13_60 pw xx (Ok Try.prog 99) (fun v _ => v = .b true) i28 fuel u (.p r 0) (.i .i64 k) v (.i .i64 (j : Nat)) h6 := by
    intro fuel
    induction fuel with
    | zero => intro j h6 a1 a2; omega
    | succ fuel ih =>
      intro j h6 a1 a2 hbd6 hb6
      have hv6 := hv.keep (hv.lt hbd) hb6 (.inr rfl)
      rw [S13_60, vece_len tt89 rfl hv6]
      by_cases hlt : j < ls.length
      · simp (disch := omega) only [ws, dec_t, F13_66]
        refine vece_at encL_len hv6 (i := j) rfl hlt fun b ha => ?_
        have l6 : ∀ κ : V → Prop, pw.ln 4 (.p b (j * 11 + 6)) h6 κ = κ (.a (adV ls[j].a)) := fun κ => by
          rw [ha.getn (f := 6) (n := 4) (by omega)]; rfl
        have hoj := ho ls[j] (List.getElem_mem hlt)
        simp (disch := omega) only [fa_p, l6, cf_k]
        refine num51_ok (by omega) (by omega) fun h7 hbd7 hb7 => ?_
        have hb07 := hb6.trans hb7
        have hv7 := hv.keep (hv.lt hbd) hb07 (.inr rfl)
        have an : ∀ κ : V → Prop, pw.an xx 59 (.i .u32 (numA ls[j].a)) (.i .u32 255) κ = κ (.i .u32 ls[j].a) := fun κ => by
          rw [show (255 : Int) = 2 ^ 8 - 1 from rfl, an_mask 8 (by decide) (fun z h1 h2 => by rw [wrap_u32', Int.emod_eq_of_lt h1 (by omega)])]
          congr 2
          simp only [numA]
          show (167772160 + ls[j].a) % 256 = _
          omega
        -- the pairs
        have pairs : ∀ h8, Bd h8 → But h h8 none → F13_89 pw xx (Ok Try.prog 99) (fun v _ => v = .b true) i28 (F13_60 pw xx (Ok Try.prog 99) (fun v _ => v = .b true) i28 fuel) u (.p r 0) (.i .i64 k) v (.i .i64 (j : Nat)) h8 := by
          intro h8 hbd8 hb8
          simp only [F13_89]
          have inner : ∀ (f2 i : Nat) (h9 : H), j < f2 + i → i ≤ j → Bd h9 → But h h9 none → F13_96 pw xx (Ok Try.prog 99) (fun v _ => v = .b true) i28 (F13_60 pw xx (Ok Try.prog 99) (fun v _ => v = .b true) i28 fuel) f2 u (.p r 0) (.i .i64 k) v (.i .i64 (j : Nat)) (.i .i64 (i : Nat)) h9 := by
            intro f2
            induction f2 with
            | zero => intro i h9 b1 b2; omega
            | succ f2 ih2 =>
              intro i h9 b1 b2 hbd9 hb9
              have hv9 := hv.keep (hv.lt hbd) hb9 (.inr rfl)
              rw [S13_96]
              by_cases hij : i < j
              · have hne := List.pairwise_iff_getElem.1 hd i j (by omega) hlt hij
                simp (disch := omega) only [ws, dec_t, F13_103]
                refine vece_at encL_len hv9 (i := i) rfl (by omega) fun b1 ha1 => ?_
                have l1 : ∀ κ : V → Prop, pw.ln 4 (.p b1 (i * 11 + 6)) h9 κ = κ (.a (adV ls[i].a)) := fun κ => by
                  rw [ha1.getn (f := 6) (n := 4) (by omega)]; rfl
                simp only [fa_p, l1]
                refine vece_at encL_len hv9 (i := j) rfl hlt fun b2 ha2 => ?_
                have l2 : ∀ κ : V → Prop, pw.ln 4 (.p b2 (j * 11 + 6)) h9 κ = κ (.a (adV ls[j].a)) := fun κ => by
                  rw [ha2.getn (f := 6) (n := 4) (by omega)]; rfl
                simp (disch := omega) only [ws, fa_p, l2, eqa_ok, dec_f hne.1]
                refine vece_at encL_len hv9 (i := i) rfl (by omega) fun b3 ha3 => ?_
                have l3 : ∀ κ : V → Prop, pw.ln 6 (.p b3 (i * 11 + 0)) h9 κ = κ (.a (maV ls[i].m)) := fun κ => by
                  rw [ha3.getn (f := 0) (n := 6) (by omega)]; rfl
                simp (disch := omega) only [ws, fa_p, l3]
                refine vece_at encL_len hv9 (i := j) rfl hlt fun b4 ha4 => ?_
                have l4 : ∀ κ : V → Prop, pw.ln 6 (.p b4 (j * 11 + 0)) h9 κ = κ (.a (maV ls[j].m)) := fun κ => by
                  rw [ha4.getn (f := 0) (n := 6) (by omega)]; rfl
                simp (disch := omega) only [ws, fa_p, l4, eqm_ok, dec_f hne.2, F13_110]
                exact ih2 (i + 1) h9 (by omega) (by omega) hbd9 hb9
              · simp (disch := omega) only [ws, dec_f, F13_72]
                exact ih (j + 1) h9 (by omega) (by omega) hbd9 hb9
          exact inner 100000 0 h8 (by omega) (by omega) hbd8 hb8
        simp (disch := omega) only [an]
        rcases hoj with ⟨o1, o2⟩ | ⟨o1, o2⟩ | ⟨o1, o2, o3⟩
        · simp (disch := omega) only [ws, o2, dec_t, dec_f, Bool.not_true, Bool.not_false, decide_true]
          refine vece_at encL_len hv7 (i := j) rfl hlt fun b2 ha2 => ?_
          have l0 : ∀ κ : V → Prop, pw.ln 6 (.p b2 (j * 11 + 0)) h7 κ = κ (.a (maV 1)) := fun κ => by
            rw [ha2.getn (f := 0) (n := 6) (by omega), ← o1]; rfl
          simp (disch := omega) only [ws, fa_p, l0, cf_k]
          refine mac_ok (by omega) (by omega) fun h8 hbd8 hb8 => ⟨fun z hz => hb8.2.1 z hz (by simp), ?_⟩
          simp (disch := omega) only [ws, eqm_ok, decide_true, Bool.not_true]
          exact pairs h8 hbd8 (hb07.trans hb8)
        · simp (disch := omega) only [ws, o2, dec_t, dec_f, Bool.not_true, Bool.not_false, decide_true]
          refine vece_at encL_len hv7 (i := j) rfl hlt fun b2 ha2 => ?_
          have l0 : ∀ κ : V → Prop, pw.ln 6 (.p b2 (j * 11 + 0)) h7 κ = κ (.a (maV 2)) := fun κ => by
            rw [ha2.getn (f := 0) (n := 6) (by omega), ← o1]; rfl
          simp (disch := omega) only [ws, fa_p, l0, cf_k]
          refine mac_ok (by omega) (by omega) fun h8 hbd8 hb8 => ⟨fun z hz => hb8.2.1 z hz (by simp), ?_⟩
          simp (disch := omega) only [ws, eqm_ok, decide_true, Bool.not_true]
          exact pairs h8 hbd8 (hb07.trans hb8)
        · simp (disch := omega) only [ws, dec_t, dec_f, Bool.not_true, Bool.not_false]
          exact pairs h7 hbd7 hb07
      · simp (disch := omega) only [ws, dec_f]
        exact hk h6 hbd6 hb6
  exact loop 100000 0 h (by omega) (by omega) hbd (But.refl _ _)

def act (x : List V) : Prop := ∃ o m a t s : Int, x = [.i .i64 o, .i .i64 m, .i .i64 a, .i .i64 t, .i .i64 s]

set_option maxHeartbeats 4000000 in
theorem apart_ok (aw : (sem (mkX Try.prog) 100000 99 39 [] ⟨17, .l⟩).map (·.1) = some (.b true)) {u : V} {zs : List (List V)} {h : H} (hh : h.next = 17) (hz : FlatAt h 5 u zs) (hzs : ∀ z ∈ zs, act z) : Ok Try.prog 100 13 [u] h (fun v _ => v = .b true) := by
  refine K13 (n := 99) fun hbd => ?_
  simp (disch := omega) only [F13, cf_k]
  refine ok_true' aw hh fun h1 hbd1 hb1 => ?_
  have hz1 := hz.keep (hz.lt hbd) hb1 (.inr rfl)
  simp (disch := omega) only [ws, Bool.not_true, F13_3, flat_len tt94 rfl hz1]
  by_cases c1 : (120 : Int) < zs.length
  · simp (disch := omega) only [ws, dec_t c1]
  simp (disch := omega) only [ws, dec_f c1, F13_5]
  refine at_ok (by omega) (by omega) fun h2 hbd2 hb2 => ?_
  refine at_ok (by omega) (by omega) fun h3 hbd3 hb3 => ?_
  refine mac_ok (by omega) (by omega) fun h4 hbd4 hb4 => ?_
  refine at_ok (by omega) (by omega) fun h5 hbd5 hb5 => ?_
  refine bl_a (v := .a (encL ⟨1, 15, 0⟩)) ?_ ?_
  · simp only [blW, ti, tt92, placesSt, maV, adV, cellsOfV, List.getElem?_cons_zero, List.getElem?_cons_succ, fillA]; rfl
  refine mac_ok (by omega) (by omega) fun h6 hbd6 hb6 => ?_
  refine at_ok (by omega) (by omega) fun h7 hbd7 hb7 => ?_
  refine bl_a (v := .a (encL ⟨2, 40, 0⟩)) ?_ ?_
  · simp only [blW, ti, tt92, placesSt, maV, adV, cellsOfV, List.getElem?_cons_zero, List.getElem?_cons_succ, fillA]; rfl
  refine bs_a (cs := encL ⟨1, 15, 0⟩ ++ encL ⟨2, 40, 0⟩) (l := [(0 * 11, .a (encL ⟨1, 15, 0⟩)), (1 * 11, .a (encL ⟨2, 40, 0⟩))]) tt89 rfl tt92 (by decide) rfl rfl fun q h8 hq hb8 hq1 hq2 => ?_
  try simp only [cf_k]
  refine newG_ok (by omega) hq fun r h9 hbd9 hb9 hr9 ht9 => ?_
  have hb19 := ((((hb2.trans hb3).trans (hb4.trans hb5)).trans (hb6.trans hb7)).trans hb8).trans hb9
  have hr1 : h1.next ≤ r := Nat.le_trans ((((hb2.trans hb3).trans (hb4.trans hb5)).trans (hb6.trans hb7)).trans hb8).1 hr9
  simp (disch := omega) only [ws, List.getElem?_cons_zero, List.getElem?_cons_succ, dec_t, decide_true, Bool.not_true, F13_22]
  have hz9 := hz1.keep (hz1.lt hbd1) hb19 (.inr rfl)
  have hfx : FX.length ≤ 10000 := by simp [FX]
  have loop : ∀ (fuel k : Nat) (h' : H) (c : Option Nat) (ms : List (V × V × Nat)) (now : Int) (es : List He), zs.length < fuel + k → k ≤ zs.length → Bd h' → FlatAt h' 5 u zs → (∀ z, vblk u = some z → z ≠ r ∧ c ≠ some z) → PG h' r c FX ms 10 20 now es → Inv FX 10 20 now es → F13_28 pw xx (Ok Try.prog 99) (fun v _ => v = .b true) fuel u (.p r 0) (.i .i64 (k : Nat)) h' := by
    intro fuel
    induction fuel with
    | zero => intro k h' c ms now es a1 a2; omega
    | succ fuel ih =>
      intro k h' c ms now es a1 a2 hbd' hzh hur ht hi
      rw [S13_28]
      simp (disch := omega) only [flat_len tt94 rfl hzh]
      by_cases hlt : k < zs.length
      · obtain ⟨o, m, a, t, s, hx⟩ := hzs zs[k] (List.getElem_mem hlt)
        have hxd : zs.getD k [] = [.i .i64 o, .i .i64 m, .i .i64 a, .i .i64 t, .i .i64 s] := by
          rw [List.getD_eq_getElem?_getD, List.getElem?_eq_getElem hlt]; exact hx
        simp (disch := omega) only [ws, dec_t, F13_32]
        refine flat_at hzh rfl hlt hxd rfl fun b off ha => ?_
        rw [ha.all]
        refine al_a tt96 fun q h1 hq hb1 hq1 hq2 => ?_
        refine sn_w (w := .a [.i .i64 o, .i .i64 m, .i .i64 a, .i .i64 t, .i .i64 s]) (cs := [.i .i64 o, .i .i64 m, .i .i64 a, .i .i64 t, .i .i64 s]) hq rfl rfl rfl rfl fun h2 hq2' hb2 => ?_
        have hb02 : But h' h2 none := hb1.over hb2 (.inr fun r e => by cases e; exact hq1)
        have hbd2 := hb02.2.2 hbd'
        have ht2 := ht.keep hbd' hb02
        have hz2 := hzh.keep (hzh.lt hbd') hb02 (.inr rfl)
        have hql : q < h2.next := Nat.lt_of_lt_of_le hq2 hb2.1
        have hqr : q ≠ r := fun e => by have := (ht.lt hbd').1; omega
        have hqc : ∀ z, c = some z → z < h'.next := (ht.lt hbd').2
        have hzlt2 := hz2.lt hbd2
        have rng : 0 ≤ timeP now t ∧ timeP now t ≤ 1099511627776 := timeP_rng hi.rng
        have g0 : ∀ h3, h3.mem.get q = some (.c [.i .i64 o, .i .i64 m, .i .i64 a, .i .i64 t, .i .i64 s] 96 true) → ∀ κ : V → Prop, pw.l1 (.p q (0 + 0)) h3 κ = κ (.i .i64 o) := fun h3 hg κ => l1_a hg rfl
        have g1 : ∀ h3, h3.mem.get q = some (.c [.i .i64 o, .i .i64 m, .i .i64 a, .i .i64 t, .i .i64 s] 96 true) → ∀ κ : V → Prop, pw.l1 (.p q (0 + 1)) h3 κ = κ (.i .i64 m) := fun h3 hg κ => l1_a hg rfl
        have g2 : ∀ h3, h3.mem.get q = some (.c [.i .i64 o, .i .i64 m, .i .i64 a, .i .i64 t, .i .i64 s] 96 true) → ∀ κ : V → Prop, pw.l1 (.p q (0 + 2)) h3 κ = κ (.i .i64 a) := fun h3 hg κ => l1_a hg rfl
        have g3 : ∀ h3, h3.mem.get q = some (.c [.i .i64 o, .i .i64 m, .i .i64 a, .i .i64 t, .i .i64 s] 96 true) → ∀ κ : V → Prop, pw.l1 (.p q (0 + 3)) h3 κ = κ (.i .i64 t) := fun h3 hg κ => l1_a hg rfl
        have g4 : ∀ h3, h3.mem.get q = some (.c [.i .i64 o, .i .i64 m, .i .i64 a, .i .i64 t, .i .i64 s] 96 true) → ∀ κ : V → Prop, pw.l1 (.p q (0 + 4)) h3 κ = κ (.i .i64 s) := fun h3 hg κ => l1_a hg rfl
        -- behind the act
        have tail : ∀ (h3 : H) (c3 : Option Nat) (ms3 : List (V × V × Nat)) (now3 : Int) (es3 : List He), Bd h3 → ButM h2 h3 r c → (c3 = c ∨ ∃ z, c3 = some z ∧ h2.next ≤ z) → PG h3 r c3 FX ms3 10 20 now3 es3 → Inv FX 10 20 now3 es3 → F13_49 pw xx (Ok Try.prog 99) (fun v _ => v = .b true) (F13_28 pw xx (Ok Try.prog 99) (fun v _ => v = .b true) fuel) u (.p r 0) (.i .i64 (k : Nat)) (.p q 0) h3 := by
          intro h3 c3 ms3 now3 es3 hbd3 hb3 hc3 ht3 hi3
          have hq3 := hb3.2.1 _ _ _ _ hql hqr (fun e => by have := hqc q e.symm; omega) hq2'
          have hz3 : FlatAt h3 5 u zs := flat_keepM hz2 (fun z hz => ⟨hzlt2 z hz, (hur z hz).1, (hur z hz).2⟩) hb3
          have hur3 : ∀ z, vblk u = some z → z ≠ r ∧ c3 ≠ some z := fun z hz => ⟨(hur z hz).1, fun e => by
            rcases hc3 with h | ⟨y, h, hy⟩
            · exact (hur z hz).2 (h ▸ e)
            · rw [h] at e; cases e
              have := hzlt2 _ hz
              omega⟩
          simp only [F13_49, fa_p, g3 h3 hq3, cf_k]
          refine allG_ok (by omega) (len12 hi3) (rng12 hi3) ht3 fun h4 v ls hbd4 hb4 ht4 hv4 hp4 hfr => ?_
          have hi4 := hi3.time t
          obtain ⟨p1, p2⟩ := told_ok hi4 hp4
          have hll : ls.length ≤ 12 := by
            rw [hp4.length_eq]
            unfold allL
            rw [List.length_map]
            exact Nat.le_trans (List.length_filter_le _ _) (len12 hi4)
          have hz4 : FlatAt h4 5 u zs := hz3.keep (hz3.lt hbd3) hb4 (.inl (fun e => (hur r e).1 rfl))
          refine seen_ok p1 hll p2 hbd4 hv4 _ fun h5 hbd5 hb5 => ?_
          simp (disch := omega) only [F13_36, ws]
          exact ih (k + 1) h5 c3 ms3 _ es3 (by omega) (by omega) hbd5 (hz4.keep (hz4.lt hbd4) hb5 (.inr rfl)) hur3 (ht4.keep hbd4 hb5) hi4
        simp (disch := omega) only [ws, fa_p, g0 h2 hq2']
        have am : 0 ≤ a % 256 ∧ a % 256 ≤ 255 := by omega
        have mm : 0 ≤ m % 256 ∧ m % 256 ≤ 255 := by omega
        by_cases o1 : o = 1
        · simp (disch := omega) only [ws, dec_t o1, g1 h2 hq2', cf_k]
          refine macm_ok (by omega) fun h3 hbd3 hb3 => ⟨fun z hz => hb3.2.1 z hz (by simp), ?_⟩
          try simp (disch := omega) only [fa_p, g2 h2 hq2', cf_k]
          refine atm_ok (by omega) fun h4 hbd4 hb4 => ⟨fun z hz => hb4.2.1 z hz (by simp), ?_⟩
          try simp (disch := omega) only [fa_p, g3 h2 hq2', g4 h2 hq2', cf_k]
          have hb24 := hb3.trans hb4
          refine takeG_ok (by omega) hfx FX_u rng am (Nat.le_trans (len12 hi) (by omega)) (ht2.keep hbd2 hb24) (fun h5 e hbd5 hb5 ht5 _ _ => ?_) fun h5 c5 es1 hbd5 hb5 hc5 hs hmay hend ht5 => ?_
          · exact tail h5 c ms _ es hbd5 ((ButM.of0 hb24).trans (ButM.of1 hb5)) (.inl rfl) ht5 (hi.time t)
          · refine tail h5 c5 ms _ _ hbd5 ((ButM.of0 hb24).trans (ButM.of2 hb5)) ?_ ht5 ((hi.time t).put hs hmay hend)
            rcases hc5 with h | ⟨z, h, hz⟩
            · exact .inl h
            · exact .inr ⟨z, h, Nat.le_trans hb24.1 hz⟩
        by_cases o2 : o = 2
        · simp (disch := omega) only [ws, dec_f o1, dec_t o2, g1 h2 hq2', cf_k]
          refine macm_ok (by omega) fun h3 hbd3 hb3 => ⟨fun z hz => hb3.2.1 z hz (by simp), ?_⟩
          try simp (disch := omega) only [fa_p, g2 h2 hq2', cf_k]
          refine atm_ok (by omega) fun h4 hbd4 hb4 => ?_
          try simp (disch := omega) only [cf_k]
          have hb24 := hb3.trans hb4
          refine endG_ok (by omega) (Nat.le_trans (len12 hi) (by omega)) (ht2.keep hbd2 hb24) (fun h5 hbd5 hb5 => ?_) fun h5 j hbd5 hb5 hj ht5 => ?_
          · exact tail h5 c ms now es hbd5 (ButM.of0 (hb24.trans hb5)) (.inl rfl) (ht2.keep hbd2 (hb24.trans hb5)) hi
          · exact tail h5 c ms now _ hbd5 ((ButM.of0 hb24).trans (ButM.of2 hb5)) (.inl rfl) ht5 (hi.dn (dn_set0 hi.rng.1 es j hj))
        by_cases o3 : o = 3
        · simp (disch := omega) only [ws, dec_f o1, dec_f o2, dec_t o3, g2 h2 hq2', cf_k]
          refine atm_ok (by omega) fun h4 hbd4 hb4 => ⟨fun z hz => hb4.2.1 z hz (by simp), ?_⟩
          try simp (disch := omega) only [fa_p, g3 h2 hq2', g4 h2 hq2', cf_k]
          refine barG_ok (by omega) hfx rng am (Nat.le_trans (len12 hi) (by omega)) (ht2.keep hbd2 hb4) fun h5 ms' es' bb hbd5 hb5 ht5 hes => ?_
          refine tail h5 c ms' _ es' hbd5 ((ButM.of0 hb4).trans hb5) (.inl rfl) ht5 ?_
          rcases hes with rfl | ⟨j, hj, rfl⟩
          · exact hi.time t
          · exact (hi.time t).dn (dn_set0 rng.1 es j hj)
        simp (disch := omega) only [ws, dec_f o1, dec_f o2, dec_f o3, g1 h2 hq2', cf_k]
        refine macm_ok (by omega) fun h3 hbd3 hb3 => ?_
        have hq3 := hb3.get hql (by simp) hq2'
        try simp (disch := omega) only [fa_p, g2 h3 hq3, cf_k]
        refine atm_ok (by omega) fun h4 hbd4 hb4 => ?_
        have hq4 := (hb3.trans hb4).get hql (by simp) hq2'
        try simp (disch := omega) only [fa_p, g3 h4 hq4, cf_k]
        have hb24 := hb3.trans hb4
        have ck : ∀ (v : V) (w : V) (h5 h6 : H) (ps : List Nat) (en : T B) (κ : Prop), h5.mem.get q = some (.c [.i .i64 o, .i .i64 m, .i .i64 a, .i .i64 t, .i .i64 s] 96 true) → h6.mem.get q = some (.c [.i .i64 o, .i .i64 m, .i .i64 a, .i .i64 t, .i .i64 s] 96 true) → q < h5.next → q < h6.next → κ → pw.ck ps en h2 (⟨8, (rdLw xx 2 (.p q (0 + 3))), .i .i64 t⟩ :: (⟨5, (rdLw xx 3 (.p q (0 + 2))), .i .i64 a⟩ :: (⟨2, (rdLw xx 3 (.p q (0 + 1))), .i .i64 m⟩ :: []))) ((14, h6) :: ((9, h5) :: ((6, h4) :: ((3, h3) :: [])))) κ := by
          intro v w h5 h6 ps en κ e5 e6 l5 l6 hκ
          have all : ∀ h7, h7.mem.get q = some (.c [.i .i64 o, .i .i64 m, .i .i64 a, .i .i64 t, .i .i64 s] 96 true) → q < h7.next → againW en ⟨8, (rdLw xx 2 (.p q (0 + 3))), .i .i64 t⟩ h7 = true ∧ againW en ⟨5, (rdLw xx 3 (.p q (0 + 2))), .i .i64 a⟩ h7 = true ∧ againW en ⟨2, (rdLw xx 3 (.p q (0 + 1))), .i .i64 m⟩ h7 = true := fun h7 e7 l7 => ⟨againW_l tt2 rfl rfl l7 e7 rfl, againW_l tt3 rfl rfl l7 e7 rfl, againW_l tt3 rfl rfl l7 e7 rfl⟩
          have al2 := all h2 hq2' hql
          have al3 := all h3 hq3 (Nat.lt_of_lt_of_le hql hb3.1)
          have al4 := all h4 hq4 (Nat.lt_of_lt_of_le hql hb24.1)
          have al5 := all h5 e5 l5
          have al6 := all h6 e6 l6
          refine ck_ok (fun rr hr => ?_) hκ
          simp only [List.mem_cons, List.not_mem_nil, or_false] at hr
          rcases hr with rfl | rfl | rfl
          · refine ⟨al2.1, fun p hp => ?_⟩
            simp only [List.mem_cons, List.not_mem_nil, or_false] at hp
            rcases hp with rfl | rfl | rfl | rfl
            · exact al6.1
            · exact al5.1
            · exact al4.1
            · exact al3.1
          · refine ⟨al2.2.1, fun p hp => ?_⟩
            simp only [List.mem_cons, List.not_mem_nil, or_false] at hp
            rcases hp with rfl | rfl | rfl | rfl
            · exact al6.2.1
            · exact al5.2.1
            · exact al4.2.1
            · exact al3.2.1
          · refine ⟨al2.2.2, fun p hp => ?_⟩
            simp only [List.mem_cons, List.not_mem_nil, or_false] at hp
            rcases hp with rfl | rfl | rfl | rfl
            · exact al6.2.2
            · exact al5.2.2
            · exact al4.2.2
            · exact al3.2.2
        have hi2 := hi.time t
        refine offerG_ok (by omega) hfx FX_a (by omega) am (Nat.le_trans (len12 hi) (by omega)) hi.dist hi.own (ht2.keep hbd2 hb24) (fun h5 hbd5 hb5 ht5 => ?_) fun h5 a5 hbd5 hb5 ht5 ha5 hmc => ?_
        · simp (disch := omega) only [ws, List.getElem?_cons_zero, List.getElem?_cons_succ]
          refine al_a tt28 fun z h6 hz hb6 hz1 hz2' => ?_
          refine sn_w (w := .a zeV) (cs := zeV) hz rfl rfl rfl rfl fun h7 hg7 hb7 => ?_
          have hb57 : But h5 h7 none := hb6.over hb7 (.inr fun r e => by cases e; exact hz1)
          have hb47 : But h4 h7 (some r) := hb5.trans (hb57.none _)
          have hql4 := Nat.lt_of_lt_of_le hql hb24.1
          refine ck (.b true) (.b true) h5 h7 _ _ _ (hb5.get hql4 (fun e => hqr (by cases e; rfl)) hq4) (hb47.get hql4 (fun e => hqr (by cases e; rfl)) hq4) (Nat.lt_of_lt_of_le hql4 hb5.1) (Nat.lt_of_lt_of_le hql4 hb47.1) ?_
          simp (disch := omega) only [ws, dec_f]
          exact tail h7 c ms _ es (hb57.2.2 hbd5) ((ButM.of0 hb24).trans (ButM.of1 hb47)) (.inl rfl) (ht5.keep hbd5 hb57) hi2
        · simp (disch := omega) only [ws, List.getElem?_cons_zero, List.getElem?_cons_succ]
          refine al_a tt28 fun z h6 hz hb6 hz1 hz2' => ?_
          refine sn_w (w := .a (adV a5)) (cs := adV a5) hz rfl rfl rfl rfl fun h7 hg7 hb7 => ?_
          have hb57 : But h5 h7 none := hb6.over hb7 (.inr fun r e => by cases e; exact hz1)
          have hb47 : But h4 h7 (some r) := hb5.trans (hb57.none _)
          have hql4 := Nat.lt_of_lt_of_le hql hb24.1
          have hq7 := hb47.get hql4 (fun e => hqr (by cases e; rfl)) hq4
          have hql7 := Nat.lt_of_lt_of_le hql4 hb47.1
          refine ck (.b true) (.b true) h5 h7 _ _ _ (hb5.get hql4 (fun e => hqr (by cases e; rfl)) hq4) hq7 (Nat.lt_of_lt_of_le hql4 hb5.1) hql7 ?_
          have hbd7 := hb57.2.2 hbd5
          simp (disch := omega) only [ws, decide_true, fa_p, g1 h7 hq7, cf_k]
          refine macm_ok (by omega) fun h8 hbd8 hb8 => ⟨fun z hz => hb8.2.1 z hz (by simp), ?_⟩
          simp (disch := omega) only [ws, fa_p, g3 h7 hq7, ln_w (sz := 4) hg7 rfl, cf_k]
          have hb78 : But h7 h8 none := hb8
          have ht8 := ht5.keep hbd5 (hb57.trans hb78)
          have same := timeP_same now t
          refine takeG_ok (by omega) hfx FX_u (by rw [same]; exact rng) ha5 (Nat.le_trans (len12 hi) (by omega)) ht8 (fun h9 e hbd9 hb9 ht9 _ hno => ?_) fun h9 c9 es1 hbd9 hb9 hc9 hs hmay hend ht9 => ?_
          · rw [same] at hno
            exact absurd (hno (by omega) (by omega) hmc) id
          · rw [same] at hmay hend ht9
            simp (disch := omega) only [ws, decide_true, Bool.not_true]
            refine tail h9 c9 ms _ _ hbd9 (((ButM.of0 hb24).trans (ButM.of1 (hb47.trans (hb78.none _)))).trans (ButM.of2 hb9)) ?_ ht9 (hi2.put hs hmay hend)
            rcases hc9 with h | ⟨z, h, hz⟩
            · exact .inl h
            · exact .inr ⟨z, h, Nat.le_trans (Nat.le_trans hb24.1 (Nat.le_trans hb47.1 hb78.1)) hz⟩
      · simp (disch := omega) only [ws, dec_f, F13_25]
  refine loop 100000 0 h9 none [] 0 [] (by omega) (by omega) hbd9 hz9 (fun z hz => ⟨fun e => ?_, fun e => by cases e⟩) ht9 ⟨List.Pairwise.nil, (fun e he => absurd he (by simp)), List.Pairwise.nil, by omega⟩
  have := hz1.lt hbd1 z hz
  omega

theorem act_of {x : List V} (h : ∃ cs, IntsAs [.i64, .i64, .i64, .i64, .i64] cs ∧ x = cs.map vOf) : act x := by
  obtain ⟨cs, h, rfl⟩ := h
  rcases h with _ | ⟨_, h⟩
  rcases h with _ | ⟨_, h⟩
  rcases h with _ | ⟨_, h⟩
  rcases h with _ | ⟨_, h⟩
  rcases h with _ | ⟨_, h⟩
  rcases h with _ | _
  exact ⟨_, _, _, _, _, rfl⟩
end Go.Proofs.Ytfkbofbdonmpfaa.Wb
