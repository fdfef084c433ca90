/- The so many-th mapping is told. -/
import Derived.Test.YtbkhielalbbopaaGreatDoorVq7
import Derived.Test.YtbkhielalbbopaaGreatDoorM5
set_option linter.unusedSimpArgs false
set_option linter.unusedVariables false
set_option linter.unusedSectionVars false
set_option linter.unnecessarySimpa false
set_option maxRecDepth 100000
namespace Go.Proofs.YtbkhielalbbopaaGreatDoor.Wb
open Go Go.Am Go.Am.Xm

theorem againE {en : T B} {ix : Nat} {b o : Nat} {m : Mp} {h : H} {l : List V} {ty : TypeId} {w : Bool} (hq : b < h.next) (hg : h.mem.get b = some (.c l ty w)) (hl : o + 9 ≤ l.length) (hv : (l.drop o).take 9 = encM m) : againW en ⟨ix, rdLw (mkX Tryz.prog) 55 (.p b o), .a (encM m)⟩ h = true := by
  unfold againW
  have e : rdLw (mkX Tryz.prog) 55 (.p b o) (fun k => bif Nat.blt k h.next then h.mem.get k else en.get k) = some (.a (encM m)) := by
    unfold rdLw
    have e1 : sub l o 9 = some (encM m) := by rw [sub_mk (by omega), hv]
    simp only [ti_some _ tt55, loadB, blt_of hq, cond_true, hg, e1, vOfCells]
  dsimp only
  rw [e]
  exact sameV_rflW _

def genA (p : Nat) : List Ag := [(nOut, digs p), (nProto, udp)] ++ entA

set_option maxHeartbeats 4000000 in
theorem generic_ok {m : Nat} (hm : 90 ≤ m) {i n : Nat} (hn : n ≤ 20) (hi : i ≤ 20) {rt rd : Nat} {c : Option Nat} {tn : Int} (htn : tn = 0 ∨ tn = 9) {v : V} {h : H} {K : V → H → Prop} (hr : Rd h rd v [(nIdx, digs i)]) (ht : PT h rt c 40000 50 tn (esN n)) (P : P10 h) (hrt : rt ≠ 3)
    (kN : n ≤ i → ∀ h', Bd h' → But h h' (some rt) → PT h' rt c 40000 50 9 (esN n) → K (.t [.ns, .i .i64 713]) h')
    (kY : i < n → ∀ h' w, Bd h' → But h h' (some rt) → PT h' rt c 40000 50 9 (esN n) → VecE h' w 49 2 encG (genA (201 - n + i)) → K (.t [w, .i .i64 0]) h') :
    Ok Tryz.prog m 34 [.p rt 0, .p rd 0, .a (encS ⟨10, 0, 0, 5⟩)] h K := by
  obtain ⟨m, rfl⟩ := Nat.exists_eq_add_of_le' (show 1 ≤ m by omega)
  refine Ok.bd (K34 (n := m) fun hbd => ?_)
  unfold F34
  have tp : timeP tn 9 = 9 := tpx htn
  obtain ⟨hlr, hlc⟩ := ht.lt hbd
  refine bx_a (cs := encS ⟨10, 0, 0, 5⟩) rfl fun q h1 g1 f1 hq hq' => ?_
  have hr1 := hr.keep hbd f1
  have hbd1 := f1.2.2 hbd
  have n1 := f1.1
  rw [show cstW (wL (wR (bdyW Tryz.f34))) 1 2 = .s nIdx by kernel_rfl, cf_k]
  have hsays : Says [(nIdx, digs i)] nIdx (digs i) := ⟨by simp, ⟨0, nIdx, by kernel_rfl, rfl⟩, by have := digs_len 5 i (by omega); omega, no_digs (by omega)⟩
  refine rport_ok (by omega) hsays (numT (by omega)) (by rw [val_digs (by omega)]; omega) hr1 fun h8 hbd8 f8 => ?_
  rw [val_digs (by omega)]
  have hr8 := hr1.keep hbd1 f8
  have n8 := f8.1
  have q8 := f8.get hq' (by simp) g1
  have x1 : ∀ κ : V → Prop, pw.l1 (.p rd (0 + 1)) h8 κ = κ (.b false) := fun κ => l1_a hr8.1 rfl
  have x5 : ∀ κ : V → Prop, pw.l1 (.p q (0 + 5)) h8 κ = κ (.i .i64 9) := fun κ => l1_a q8 rfl
  simp (disch := omega) only [ws, x1, F34_10, x5]
  have f08 := f1.trans f8
  refine all_ok (by omega) (by rw [esN_len]; omega) (by rw [tp, esN_liv, esN_len]; omega) (esN_two hn) (ht.keep hbd f08) fun h17 w g hbd17 f17 ht17 hd17 hs hdd hmm hmb hw => ?_
  rw [tp] at ht17 hd17 hs hdd hmm hmb
  rw [esN_liv] at hd17 hs hdd hmm hmb
  have hall := all_is hn hs hdd hmm hmb
  unfold D at hd17
  rw [hall] at hd17
  have n17 := f17.1
  have hwr : vblk w ≠ some rt := fun e => by have := hw rt e; omega
  have hcl : ∀ kk, 2 ≤ kk → ClP Tryz.prog kk h17 (vblk w) (.f 70 []) encM (srN n) (fun e => !toldE e) := fun kk hkk => ClP.mk fun e he h4 K4 hbd4 hb4 hk4 => cl70_ok hkk hk4
  refine m_delete_ok (by omega) hd17 (by simp [srN, srU]; omega) (fun e _ => encM_one e) (hcl _ (by omega)) (hcl _ (by omega)) fun w2 h18 hbd18 f18 hv2 hvv => ?_
  have ef : (srN n).filter (fun e => !!toldE e) = srU n := by
    rw [← told_is]
    congr 1
    funext e
    simp [toldE]
  rw [ef] at hvv
  have n18 := f18.1
  have f818 : But h8 h18 (some rt) := f17.over f18 (.inr fun z e => hw z e)
  have f018 : But h h18 (some rt) := (f08.none _).trans f818
  have ht18 : PT h18 rt c 40000 50 9 (esN n) := by
    obtain ⟨lv, a1, a2, a3, a4⟩ := ht17
    have hcw : vblk lv ≠ vblk w ∨ vblk w = none := by
      cases hz : vblk w with
      | none => exact .inr rfl
      | some z =>
        refine .inl fun e => ?_
        have h1 := hw z hz
        have h2 := hlc z (by rw [← a3, e])
        omega
    exact ⟨lv, f18.get (hbd17 _ _ a1) (fun e => hwr e.symm) a1, a2.keep (a2.lt hbd17) f18 hcw, a3, a4⟩
  have hlen : (srU n).length = n := by simp [srU]
  rw [vece_len tt84 rfl hvv, hlen, ge_i]
  by_cases hni : n ≤ i
  · rw [decide_eq_true (show (n : Int) ≤ (i : Int) by omega), cd_t]
    exact fun hb => kN hni h18 hb f018 ht18
  rw [decide_eq_false (show ¬ (n : Int) ≤ (i : Int) by omega), cd_f]
  have hi2 : i < n := by omega
  have hget : (srU n)[i]'(by omega) = uM (201 - n + i) := by simp [srU]
  unfold F34_20
  refine vece_at encM_len hvv rfl (by omega) fun b0 ha0 => ?_
  rw [hget] at ha0
  rw [fa_p, ha0.get (f := 0) (x := .i .i64 17) rfl, eq_i, decide_eq_false (show ¬ (17 : Int) = 6 by decide), cd_f]
  have P18 := P.keep f018 (by intro e; exact hrt (Option.some.inj e))
  unfold F34_25
  rw [show cstW (wL (wR (wR (wR (wR (wR (bdyW Tryz.f34))))))) 0 0 = .s udp by kernel_rfl, show cstW (wL (wR (wR (wR (wR (wR (wR (wR (bdyW Tryz.f34))))))))) 6 0 = .s nOut by kernel_rfl, show cstW (wL (wR (wR (wR (wR (wR (wR (wR (bdyW Tryz.f34))))))))) 8 0 = .s nProto by kernel_rfl]
  refine vece_at encM_len hvv rfl (by omega) fun b1 ha1 => ?_
  rw [hget] at ha1
  rw [fa_p, ha1.get (f := 1) (x := .i .i64 ((201 - n + i : Nat) : Int)) rfl, cf_k]
  refine Ok.bd (numw_ok (c := 201 - n + i) (by omega) (by omega) P18 fun h35 f35 => fun hbd35 => ?_)
  have b49 : ∀ (a b : Bs), blW (mkX Tryz.prog) 49 [(0, .s a), (1, .s b)] = some (.a [.s a, .s b]) := fun a b => by
    unfold blW
    rw [ti_some _ tt49]
    rfl
  refine bl_a (b49 _ _) (bl_a (b49 _ _) ?_)
  refine bs_a (cs := encs encG [(nOut, digs (201 - n + i)), (nProto, udp)]) tt23 rfl tt49 (by decide) rfl rfl fun q39 h39 g39 f39 hq39 hq39' => ?_
  have hv39 := vec_lit g39
  have hbd39 := f39.2.2 hbd35
  have f1839 := f35.trans f39
  have hvv39 := hvv.keep (hvv.lt hbd18) f1839 (.inr rfl)
  refine vece_at encM_len hvv39 rfl (by omega) fun b2 ha2 => ?_
  rw [hget] at ha2
  have n35 := f35.1
  have n39 := f39.1
  have hqrt : some q ≠ some rt := fun e => by have := Option.some.inj e; omega
  have q18 := f818.get (by omega) hqrt q8
  have q39' := f1839.get (by omega) (by simp) q18
  rw [ha2.all, fa_p, l1_a q39' (x := .i .i64 9) rfl, cf_k]
  refine entry_ok (by omega) (P18.keep f1839 (by simp)) fun h46 w46 hbd46 f46 hv46 hw46 => ?_
  have n46 := f46.1
  have hv39' := hv39.keep (hv39.lt hbd39) f46 (.inr rfl)
  obtain ⟨e46, h46'⟩ := id hv46
  rcases h46' with ⟨_, e0⟩ | ⟨r46, cap46, b46, l46, rfl, g46, hc46, hl46, ht46⟩
  · exact absurd e0 (by decide)
  refine ap_vec (cs := encs encG entA) (m := 4) tt23 rfl tt49 tt23 (by intro k e; cases e) rfl ?_ hv39' rfl rfl (by unfold most; simp) (by unfold most; simp) fun w47 h47 hv47 f47 hq47 => ?_
  · have h4 : entA.length = 4 := rfl
    rw [h4] at hc46 ht46
    simp only [fcells, g46]
    rw [sub_mk (by omega), List.drop_zero, ht46]
  have fin : But h18 h47 none := (f1839.trans f46).over f47 (.inr fun z e => by cases e; omega)
  have hvw : VecE h47 w47 49 2 encG (genA (201 - n + i)) := by
    unfold VecE genA
    rw [encs_app, List.length_append]
    exact hv47
  obtain ⟨hb1, _, ll, ty1, gl1, gl2, gl3⟩ := id ha1
  have hb2 := ha2.blk
  have hbb : b2 = b1 := Option.some.inj (hb2.symm.trans hb1)
  subst hbb
  have hb1l := hbd18 _ _ gl1
  have hql := hbd18 _ _ q18
  have h9 : ((ll.drop (i * 9)).take 9)[1]? = some (.i .i64 ((201 - n + i : Nat) : Int)) := by rw [gl3]; rfl
  rw [List.getElem?_take_of_lt (by decide), List.getElem?_drop] at h9
  have key : ∀ (hx : H) (en : T B), But h18 hx none → againW en ⟨15, rdLw (mkX Tryz.prog) 2 (.p q (0 + 5)), .i .i64 9⟩ hx = true ∧ againW en ⟨13, rdLw (mkX Tryz.prog) 55 (.p b2 (i * 9)), .a (encM (uM (201 - n + i)))⟩ hx = true ∧ againW en ⟨4, rdLw (mkX Tryz.prog) 3 (.p b2 (i * 9 + 1)), .i .i64 ((201 - n + i : Nat) : Int)⟩ hx = true := fun hx en f =>
    ⟨againW_l tt2 rfl rfl (Nat.lt_of_lt_of_le hql f.1) (f.get hql (by simp) q18) rfl, againE (Nat.lt_of_lt_of_le hb1l f.1) (f.get hb1l (by simp) gl1) gl2 gl3, againW_l tt3 rfl rfl (Nat.lt_of_lt_of_le hb1l f.1) (f.get hb1l (by simp) gl1) h9⟩
  refine ck_ok (fun r hr => ?_) ?_
  · simp only [List.mem_cons, List.not_mem_nil, or_false] at hr
    rcases hr with rfl | rfl | rfl
    · refine ⟨(key h18 _ (But.refl _ _)).1, fun p hp => ?_⟩
      simp only [List.mem_cons, List.not_mem_nil, or_false] at hp
      rcases hp with rfl | rfl | rfl
      · exact (key h47 _ fin).1
      · exact (key h46 _ (f1839.trans f46)).1
      · exact (key h35 _ f35).1
    · refine ⟨(key h18 _ (But.refl _ _)).2.1, fun p hp => ?_⟩
      simp only [List.mem_cons, List.not_mem_nil, or_false] at hp
      rcases hp with rfl | rfl | rfl
      · exact (key h47 _ fin).2.1
      · exact (key h46 _ (f1839.trans f46)).2.1
      · exact (key h35 _ f35).2.1
    · refine ⟨(key h18 _ (But.refl _ _)).2.2, fun p hp => ?_⟩
      simp only [List.mem_cons, List.not_mem_nil, or_false] at hp
      rcases hp with rfl | rfl | rfl
      · exact (key h47 _ fin).2.2
      · exact (key h46 _ (f1839.trans f46)).2.2
      · exact (key h35 _ f35).2.2
  · exact fun hb => kY hi2 h47 w47 hb (f018.trans (fin.none _)) (ht18.keep hbd18 fin) hvw
end Go.Proofs.YtbkhielalbbopaaGreatDoor.Wb
