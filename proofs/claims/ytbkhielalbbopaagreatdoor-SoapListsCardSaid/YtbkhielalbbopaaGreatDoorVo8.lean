/- All live mappings, in order. -/
import Derived.Test.YtbkhielalbbopaaGreatDoorVo7
import Derived.Test.YtbkhielalbbopaaGreatDoorYo6
set_option linter.unusedSimpArgs false
set_option linter.unusedVariables false
set_option linter.unusedSectionVars false
set_option linter.unnecessarySimpa false
set_option maxRecDepth 100000
namespace Go.Proofs.YtbkhielalbbopaaGreatDoor.Wb
open Go.Am

theorem ord_lt (a b : Mp) : orZ (cmpZ a.p b.p) (cmpZ a.o b.o) < 0 ↔ lt a b := by
  unfold orZ cmpZ lt
  repeat' split
  all_goals omega

theorem cmpC {h0 : H} {c : Option Nat} : CmpC 3 h0 c (.f 133 []) := by
  intro n hn a b h K hbd _ k
  obtain ⟨n, rfl⟩ := Nat.exists_eq_add_of_le' hn
  rw [cl_k]
  refine Ok.bd (K133 (n := n + 2) fun hbd => ?_)
  unfold F133
  refine bx_a (cs := encM a) rfl fun q1 h1 g1 f1 _ hl1 => ?_
  refine bx_a (cs := encM b) rfl fun q2 h2 g2 f2 _ hl2 => ?_
  have g1' := f2.get hl1 (by simp) g1
  have r1 : ∀ κ : V → Prop, pw.l1 (.p q1 (0 + 0)) h2 κ = κ (.i .i64 a.p) := fun κ => l1_a g1' rfl
  have r2 : ∀ κ : V → Prop, pw.l1 (.p q2 (0 + 0)) h2 κ = κ (.i .i64 b.p) := fun κ => l1_a g2 rfl
  have r3 : ∀ κ : V → Prop, pw.l1 (.p q1 (0 + 1)) h2 κ = κ (.i .i64 a.o) := fun κ => l1_a g1' rfl
  have r4 : ∀ κ : V → Prop, pw.l1 (.p q2 (0 + 1)) h2 κ = κ (.i .i64 b.o) := fun κ => l1_a g2 rfl
  simp only [fa_p, r1, r2, r3, r4, cf_k]
  refine cmp_ok (by omega) fun _ => ⟨fun z hz => rfl, ?_⟩
  refine cmp_ok (by omega) fun _ => ?_
  refine bs_a (cs := [.i .i64 (cmpZ a.p b.p), .i .i64 (cmpZ a.o b.o)]) (l := [(0 * 1, .i .i64 (cmpZ a.p b.p)), (1 * 1, .i .i64 (cmpZ a.o b.o))]) tt169 rfl tt3 (by decide) rfl rfl fun q h3 g3 f3 _ _ => ?_
  refine or_ok (by omega) g3 fun _ => ?_
  exact fun hb => k h3 _ hb ((f1.trans f2).trans f3) (ord_lt a b)

/-- Two entries of one protocol and port. -/
def two (es : List Mp) : Prop := es.Pairwise fun a b => ¬ (a.p = b.p ∧ a.o = b.o)
def liv (T : Int) (es : List Mp) : List Mp := es.filter fun e => lvE e T
def fn (l : List Mp) : Nat → Mp := fun i => l.getD i m0
theorem fl_fn (l : List Mp) : fl l.length (fn l) = l := by
  refine List.ext_getElem (by simp [fl]) fun k h1 h2 => ?_
  rw [fl_get h1, fn, List.getD_eq_getElem?_getD, List.getElem?_eq_getElem h2, Option.getD_some]
theorem fn_get {l : List Mp} {i : Nat} (h : i < l.length) : fn l i = l[i] := by
  rw [fn, List.getD_eq_getElem?_getD, List.getElem?_eq_getElem h, Option.getD_some]
theorem dis_fn {l : List Mp} (h : two l) : Dis l.length (fn l) := by
  have h1 := List.pairwise_iff_getElem.1 h
  intro x y hx hy hne
  rw [fn_get hx, fn_get hy]
  have h2 : ¬ (l[x].p = l[y].p ∧ l[x].o = l[y].o) := by
    rcases Nat.lt_or_ge x y with h | h
    · exact h1 x y hx hy h
    · have := h1 y x hy hx (by omega)
      omega
  unfold lt
  omega

set_option maxHeartbeats 4000000 in
theorem which_ok {m : Nat} (hm : 100 ≤ m + 40) {r : Nat} {c : Option Nat} {low room tn T : Int} {es : List Mp} (hl : es.length ≤ 9000) (h40 : (liv T es).length < 41) (h2 : two es) {h : H} {K : V → H → Prop} (ht : PT h r c low room tn es)
    (hk : ∀ h' v g, Bd h' → But h h' none → D h' v (liv T es).length g → Srt 0 (liv T es).length g → Dis (liv T es).length g → (∀ x, x < (liv T es).length → g x ∈ liv T es) → (∀ e, e ∈ liv T es → ∃ x, x < (liv T es).length ∧ g x = e) → (∀ z, vblk v = some z → h.next ≤ z) → K v h') : Ok Tryz.prog m 104 [.p r 0, .b true, .i .i64 T] h K := by
  obtain ⟨m, rfl⟩ := Nat.exists_eq_add_of_le' (show 1 ≤ m by omega)
  refine Ok.bd (K104 (n := m) fun hbd => ?_)
  unfold F104
  obtain ⟨lv0, g0, hv0, _, _⟩ := id ht
  rw [nl_p, fa_p, l1_a g0 (x := lv0) rfl, vece_len tt84 rfl hv0]
  have go : ∀ (fuel k : Nat) (h' : H) (lv : V), es.length < fuel + k → k ≤ es.length → Bd h' → But h h' none → VecE h' lv 55 9 encM (liv T (es.take k)) → (∀ z, vblk lv = some z → h.next ≤ z) →
      F104_18 pw (mkX Tryz.prog) (Ok Tryz.prog m) (fun v h => Bd h → K v h) fuel (.b true) (.i .i64 T) lv lv0 (.i .i64 (es.length : Nat)) (.i .i64 (k : Nat)) h' := by
    intro fuel
    induction fuel with
    | zero => intro k h' lv a1 a2; omega
    | succ fuel ih =>
      intro k h' lv a1 a2 hbd' hb hv hz
      rw [S104_18]
      by_cases hlt : k < es.length
      · rw [lt_i, decide_eq_true (show (k : Int) < (es.length : Int) by omega), cd_t]
        unfold F104_26
        refine vece_at encM_len (hv0.keep (hv0.lt hbd) hb (.inr rfl)) rfl hlt fun b ha => ?_
        rw [ha.all]
        refine al_a tt55 fun q h2 g2 f2 hq hq' => ?_
        refine sn_w (sz := 9) (cs := encM es[k]) g2 rfl rfl rfl rfl fun h3 g3 f3 => ?_
        rw [ln_w (sz := 9) g3 rfl, cf_k]
        have f23 : But h' h3 none := f2.over f3 (.inr fun z e => by cases e; exact hq)
        refine live_ok (by omega) fun h4 hbd4 f4 => ?_
        have n2 := f2.1
        have n3 := f3.1
        have g4 := f4.get (by omega) (by simp) g3
        have f24 := f23.trans f4
        rw [eq_b tt4 rfl rfl rfl]
        have hd : es.take (k + 1) = es.take k ++ [es[k]] := List.take_succ_eq_append_getElem hlt
        have hv4 := hv.keep (hv.lt hbd') f24 (.inr rfl)
        have hb4 := hb.trans f24
        have nh := hb.1
        cases hlv : lvE es[k] T with
        | false =>
          simp only [show (false == true) = false from rfl, cd_f]
          unfold F104_33
          rw [ad_64 (by omega), show (k : Int) + 1 = ((k + 1 : Nat) : Int) by omega]
          refine ih (k + 1) h4 lv (by omega) (by omega) hbd4 hb4 ?_ hz
          rw [hd]
          rw [show liv T (es.take k ++ [es[k]]) = liv T (es.take k) by unfold liv; rw [List.filter_append]; simp only [List.filter_cons, hlv, List.filter_nil, Bool.false_eq_true, if_false, List.append_nil]]
          exact hv4
        | true =>
          simp only [BEq.rfl, cd_t]
          rw [ln_w (sz := 9) g4 rfl]
          refine bs_a (cs := encM es[k]) (l := [(0 * 9, .a (encM es[k]))]) tt84 rfl tt55 (by decide) rfl rfl fun q5 h5 g5 f5 _ _ => ?_
          have hv5 : VecE h5 lv 55 9 encM (liv T (es.take k)) := hv4.keep (hv4.lt hbd4) f5 (.inr rfl)
          have hll : (liv T (es.take k)).length ≤ 9000 := Nat.le_trans (List.length_filter_le _ _) (by rw [List.length_take]; omega)
          refine ap_vec (cs := encM es[k]) (m := 1) tt84 rfl tt55 tt84 (by intro k e; cases e) rfl ?_ hv5 rfl rfl (by unfold most; simp only; omega) (by unfold most; omega) fun v6 h6 hv6 f6 hq6 => ?_
          · simp only [fcells, g5]
            rfl
          unfold F104_33
          rw [ad_64 (by omega), show (k : Int) + 1 = ((k + 1 : Nat) : Int) by omega]
          have hb5 := hb4.trans f5
          have hb6 : But h h6 none := hb5.over f6 (.inr fun z e => hz z e)
          have n5 := hb5.1
          refine ih (k + 1) h6 v6 (by omega) (by omega) (hb6.2.2 hbd) hb6 ?_ (fun z hz' => ?_)
          · rw [hd]
            have e : liv T (es.take k ++ [es[k]]) = liv T (es.take k) ++ [es[k]] := by unfold liv; rw [List.filter_append]; simp only [List.filter_cons, hlv, List.filter_nil, if_true]
            rw [e]
            unfold VecE
            rw [encs_app, encs_one, List.length_append]
            exact hv6
          · rcases hq6 with e | ⟨e, e'⟩
            · rw [e] at hz'; exact hz z hz'
            · rw [e] at hz'
              cases hz'
              exact n5
      · rw [lt_i, decide_eq_false (show ¬ (k : Int) < (es.length : Int) by omega), cd_f]
        unfold F104_6
        rw [List.take_of_length_le (by omega)] at hv
        have hv' : D h' lv (liv T es).length (fn (liv T es)) := by unfold D; rw [fl_fn]; exact hv
        have hds : Dis (liv T es).length (fn (liv T es)) := dis_fn (List.Pairwise.filter _ h2)
        rw [cf_k]
        refine sort_ok (n0 := 3) (by omega) (by omega) hv' cmpC hds fun h3 g hbd3 f3 hv3 p3 s3 => ?_
        exact fun hb3 => hk h3 lv g hb3 (hb.over f3 (.inr fun z e => hz z e)) hv3 s3 (p3.dis (Nat.le_refl _) hds) (fun x hx => by
          obtain ⟨y, hy, e⟩ := p3.mem (x := x) ⟨Nat.zero_le _, hx⟩
          rw [e, fn_get hy.2]
          exact List.getElem_mem _) (fun e he => by
          obtain ⟨y, hy, rfl⟩ := List.getElem_of_mem he
          obtain ⟨x, hx, e⟩ := p3.back (y := y) ⟨Nat.zero_le _, hy⟩
          exact ⟨x, hx.2, by rw [e, fn_get hy]⟩) hz
  exact go 100000 0 h .ns (by omega) (by omega) hbd (But.refl _ _) ⟨rfl, .inl ⟨rfl, rfl⟩⟩ fun z e => by cases e

theorem all_ok {m : Nat} (hm : 101 ≤ m + 40) {r : Nat} {c : Option Nat} {low room tn t : Int} {es : List Mp} (hl : es.length ≤ 9000) (h40 : (liv (timeP tn t) es).length < 41) (h2 : two es) {h : H} {K : V → H → Prop} (ht : PT h r c low room tn es)
    (hk : ∀ h' v g, Bd h' → But h h' (some r) → PT h' r c low room (timeP tn t) es → D h' v (liv (timeP tn t) es).length g → Srt 0 (liv (timeP tn t) es).length g → Dis (liv (timeP tn t) es).length g → (∀ x, x < (liv (timeP tn t) es).length → g x ∈ liv (timeP tn t) es) → (∀ e, e ∈ liv (timeP tn t) es → ∃ x, x < (liv (timeP tn t) es).length ∧ g x = e) → (∀ z, vblk v = some z → h.next ≤ z) → K v h') : Ok Tryz.prog m 69 [.p r 0, .i .i64 t] h K := by
  obtain ⟨m, rfl⟩ := Nat.exists_eq_add_of_le' (show 1 ≤ m by omega)
  refine K69 (n := m) fun hbd => ?_
  unfold F69
  rw [cf_k]
  refine time_ok (by omega) ht fun h1 hbd1 f1 ht1 => ?_
  rw [cf_k]
  refine which_ok (by omega) hl h40 h2 ht1 fun h2 v g hbd2 f2 hv s d hm hm' hz => ?_
  exact hk h2 v g hbd2 (f1.trans (f2.none _)) (ht1.keep hbd1 f2) hv s d hm hm' fun z e => Nat.le_trans f1.1 (hz z e)
end Go.Proofs.YtbkhielalbbopaaGreatDoor.Wb
