/- Who has which address: the walks of 'All', 'Tick', 'New'. -/
import Derived.Test.YtfkbofbdonmpfaaPq3
import Derived.Test.YtfkbofbdonmpfaaPq4
set_option linter.unusedSimpArgs false
set_option linter.unusedVariables false
set_option linter.unusedSectionVars false
set_option linter.unnecessarySimpa false
set_option maxRecDepth 100000
namespace Go.Proofs.Ytfkbofbdonmpfaa.Wb
open Go.Am

theorem nan_ok {n : Nat} (hn : 1 ≤ n) {k : Int} {h : H} {K : V → H → Prop} (hk : Bd h → K (.b false) h) : Ok Try.prog n 171 [.i .u32 k] h K := by
  obtain ⟨n, rfl⟩ := Nat.exists_eq_add_of_le' hn
  refine Ok.bd (K171 fun hbd => ?_)
  simp (disch := omega) only [F171, ws, dec_t (rfl : k = k)]
  exact hk
def cmpZ (a b : Int) : Int := if a < b then -1 else if b < a then 1 else 0
theorem cmp_ok {n : Nat} (hn : 2 ≤ n) {a b : Int} {h : H} {K : V → H → Prop} (hk : Bd h → K (.i .i64 (cmpZ a b)) h) : Ok Try.prog n 150 [.i .u32 a, .i .u32 b] h K := by
  obtain ⟨n, rfl⟩ := Nat.exists_eq_add_of_le' hn
  refine Ok.bd (K150 (n := n + 1) fun hbd => ?_)
  simp (disch := omega) only [F150, cf_k]
  refine nan_ok (by omega) fun _ => ?_
  refine nan_ok (by omega) fun _ => ?_
  simp only [cmpZ] at hk
  by_cases h1 : a < b
  · simp (disch := omega) only [F150_10, F150_14, ws, dec_t h1]
    rw [if_pos h1] at hk
    exact hk
  · rw [if_neg h1] at hk
    by_cases h2 : b < a
    · simp (disch := omega) only [F150_10, F150_14, F150_17, ws, dec_f h1, dec_t h2]
      rw [if_pos h2] at hk
      exact hk
    · simp (disch := omega) only [F150_10, F150_14, F150_17, F150_20, ws, dec_f h1, dec_f h2]
      rw [if_neg h2] at hk
      exact hk
theorem cl149_ok {n : Nat} (hn : 3 ≤ n) {a b : Le} (ha : 0 ≤ a.a ∧ a.a ≤ 255) (hb : 0 ≤ b.a ∧ b.a ≤ 255) {h : H} {K : V → H → Prop} (hk : ∀ h', Bd h' → But h h' none → K (.i .i64 (cmpZ (numA a.a) (numA b.a))) h') : Ok Try.prog n 149 [.a (encL a), .a (encL b)] h K := by
  obtain ⟨n, rfl⟩ := Nat.exists_eq_add_of_le' hn
  refine Ok.bd (K149 (n := n + 2) fun hbd => ?_)
  simp (disch := omega) only [F149]
  refine bx_a (cs := encL a) rfl fun p h1 hp hb1 _ hp2 => ?_
  refine bx_a (cs := encL b) rfl fun q h2 hq hb2 _ hq2 => ?_
  have hp' := hb2.get hp2 (by simp) hp
  have a6 : ∀ κ : V → Prop, pw.ln 4 (.p p (0 + 6)) h2 κ = κ (.a (adV a.a)) := fun κ => by rw [ln_a (sz := 4) hp' (by simp [encL])]; rfl
  have b6 : ∀ κ : V → Prop, pw.ln 4 (.p q (0 + 6)) h2 κ = κ (.a (adV b.a)) := fun κ => by rw [ln_a (sz := 4) hq (by simp [encL])]; rfl
  simp only [fa_p, a6, b6, cf_k]
  refine num_ok (by omega) ha fun h3 hbd3 hb3 => ⟨fun z hz => hb3.2.1 z hz (by simp), ?_⟩
  try simp only [fa_p, a6, b6, cf_k]
  refine num_ok (by omega) hb fun h4 hbd4 hb4 => ?_
  refine cmp_ok (by omega) fun _ => ?_
  intro hbd'
  exact hk h4 hbd' ((hb1.trans hb2).trans (hb3.trans hb4))
theorem srt149 {es : List Le} (hr : ∀ e ∈ es, 0 ≤ e.a ∧ e.a ≤ 255) (hs : es.Pairwise fun x y => x.a ≤ y.a) (h0 : H) : SrtC 5 h0 (.f 149 []) es := by
  intro n hn i j hi hj hij h K hb hk k
  rw [cl_k]
  refine cl149_ok (by omega) (hr _ (List.getElem_mem hj)) (hr _ (List.getElem_mem hi)) fun h' hbd' hb' => k h' _ hbd' hb' ?_
  have := List.pairwise_iff_getElem.1 hs i j hi hj hij
  unfold cmpZ numA
  split
  · omega
  · split <;> omega

/-- 'sorted', of what is sorted. -/
theorem sorted_ok {n : Nat} (hn : 12 ≤ n) {v : V} {es : List Le} (hl : es.length ≤ 64) (hr : ∀ e ∈ es, 0 ≤ e.a ∧ e.a ≤ 255) (hs : es.Pairwise fun x y => x.a ≤ y.a) {h : H} {K : V → H → Prop} (hv : VecE h v 92 11 encL es) (hk : ∀ h', Bd h' → But h h' none → K v h') : Ok Try.prog n 97 [v] h K := by
  obtain ⟨n, rfl⟩ := Nat.exists_eq_add_of_le' (show 1 ≤ n by omega)
  refine K97 fun hbd => ?_
  simp only [F97, cf_k]
  exact srt_ok (n0 := 5) (by omega) (by omega) hl hv (srt149 hr hs h) hk

theorem acc_ok {acc : V} {es : List Le} {e : Le} {h : H} {κ : V → H → Prop} (hv : VecE h acc 92 11 encL es) (hbd : Bd h) (hl : es.length ≤ 10000)
    (K : ∀ v' h', Bd h' → VecE h' v' 92 11 encL (es ++ [e]) → But h h' (vblk acc) → (vblk v' = vblk acc ∨ ∃ z, vblk v' = some z ∧ h.next ≤ z) → κ v' h') :
    pw.bs xx 89 1 [(0, .a (encL e))] h fun v52 h52 => pw.ap xx 89 89 acc v52 h52 fun v53 h53 => κ v53 h53 := by
  refine bs_a (cs := encL e) (l := [(0 * 11, .a (encL e))]) tt89 rfl tt92 (by decide) rfl rfl fun q2 h4 hg4 hb4 hq1 hq2 => ?_
  refine ap_vec (cs := encL e) (m := 1) tt89 rfl tt92 tt89 (by intro k e; cases e) rfl ?_ (hv.keep (hv.lt hbd) hb4 (.inr rfl)) rfl (encL_one _) (by unfold most; simp; omega) (by unfold most; omega) fun v5 h5 hv5 hb5 hq5 => ?_
  · simp only [fcells, hg4]
    rfl
  refine K v5 h5 (hb5.2.2 (hb4.2.2 hbd)) ?_ ((hb4.none _).trans hb5) ?_
  · unfold VecE
    rw [encs_app, encs_one, List.length_append]
    exact hv5
  · rcases hq5 with h | ⟨h, _⟩
    · exact .inl h
    · exact .inr ⟨h4.next, h, hb4.1⟩

def allL (T : Int) (es : List He) : List Le := (es.filter fun e => decide (T < e.l.un)).map He.l

theorem all_ok {n : Nat} (hn : 13 ≤ n) {r : Nat} {c : Option Nat} {first last tn t : Int} {es : List He} (hl : es.length ≤ 64) (hr : ∀ e ∈ es, 0 ≤ e.l.a ∧ e.l.a ≤ 255) (hs : es.Pairwise fun x y => x.l.a ≤ y.l.a) {h : H} {K : V → H → Prop} (ht : PL h r c first last tn es)
    (hk : ∀ h' v, Bd h' → But h h' (some r) → PL h' r c first last (timeP tn t) es → VecE h' v 92 11 encL (allL (timeP tn t) es) → (∀ q, vblk v = some q → h.next ≤ q) → K v h') : Ok Try.prog n 47 [.p r 0, .i .i64 t] h K := by
  obtain ⟨n, rfl⟩ := Nat.exists_eq_add_of_le' (show 1 ≤ n by omega)
  refine K47 fun hbd => ?_
  simp (disch := omega) only [F47, cf_k]
  refine time_ok (by omega) ht fun h1 hbd1 hb1 ht1 => ?_
  generalize timeP tn t = T at hk ht1 ⊢
  obtain ⟨lv, mb, kk, g1, g2, g3⟩ := id ht1
  have r3 : ∀ κ : V → Prop, pw.l1 (.p r (0 + 3)) h1 κ = κ lv := fun κ => l1_a g1 rfl
  simp (disch := omega) only [ws, r3, vece_len tt142 rfl g2]
  have main : ∀ (fuel k : Nat) (h' : H) (acc : V), es.length < fuel + k → k ≤ es.length → Bd h' → But h1 h' none → VecE h' acc 92 11 encL (allL T (es.take k)) → (∀ q, vblk acc = some q → h1.next ≤ q) → F47_19 pw xx (Ok Try.prog n) K fuel (.p r 0) acc lv (.i .i64 (es.length : Nat)) (.i .i64 (k : Nat)) h' := by
    intro fuel
    induction fuel with
    | zero => intro k h' acc a1 a2; omega
    | succ fuel ih =>
      intro k h' acc a1 a2 hbd' hb hva hfr
      rw [S47_19]
      have hal : (allL T (es.take k)).length ≤ k := by
        unfold allL
        rw [List.length_map]
        refine Nat.le_trans (List.length_filter_le _ _) ?_
        rw [List.length_take]; omega
      by_cases hlt : k < es.length
      · simp (disch := omega) only [ws, dec_t, F47_26]
        refine vece_at encH_len (g2.keep (g2.lt hbd1) hb (.inr rfl)) rfl hlt fun b0 ha => ?_
        rw [ha.all]
        refine al_a tt148 fun q h4 hq hb4 hq1 hq2 => ?_
        refine sn_w (w := .a (encH es[k])) (cs := encH es[k]) hq rfl (encH_len _) rfl (encH_one _) fun h5 hq5 hb5 => ?_
        have hb45 : But h' h5 none := hb4.over hb5 (.inr fun r e => by cases e; exact hq1)
        have hbd5 := hb45.2.2 hbd'
        have hb15 := hb.trans hb45
        refine live_ok (by omega) hlt (ht1.keep hbd1 hb15) fun _ => ?_
        have e1 : es.take (k + 1) = es.take k ++ [es[k]] := List.take_succ_eq_append_getElem hlt
        have e2 : allL T (es.take (k + 1)) = allL T (es.take k) ++ (if T < es[k].l.un then [es[k].l] else []) := by
          unfold allL
          rw [e1, List.filter_append, List.map_append]
          by_cases c : T < es[k].l.un <;> simp [c]
        have hva5 := hva.keep (hva.lt hbd') hb45 (.inr rfl)
        by_cases c : T < es[k].l.un
        · rw [if_pos c] at e2
          have l11 : ∀ κ : V → Prop, pw.ln 11 (.p q (0 + 0)) h5 κ = κ (.a (encL es[k].l)) := fun κ => by rw [ln_a (sz := 11) hq5 (by simp [encH])]; rfl
          simp (disch := omega) only [ws, dec_t c, l11]
          refine acc_ok hva5 hbd5 (by omega) fun v6 h6 hbd6 hv6 hb6 hq6 => ?_
          simp (disch := omega) only [F47_32, ws]
          refine ih (k + 1) h6 v6 (by omega) (by omega) hbd6 (hb15.over hb6 (.inr fun z e => hfr z e)) (by rw [e2]; exact hv6) fun z hz => ?_
          rcases hq6 with h | ⟨y, h, hy⟩
          · exact hfr z (h ▸ hz)
          · rw [h] at hz; cases hz; exact Nat.le_trans hb15.1 hy
        · rw [if_neg c, List.append_nil] at e2
          simp (disch := omega) only [ws, dec_f c, F47_32]
          exact ih (k + 1) h5 acc (by omega) (by omega) hbd5 hb15 (by rw [e2]; exact hva5) hfr
      · simp (disch := omega) only [ws, dec_f, F47_8]
        rw [List.take_of_length_le (by omega)] at hva hal
        refine sorted_ok (by omega) (by omega) ?_ ?_ hva fun h6 hbd6 hb6 => ?_
        · intro e he
          unfold allL at he
          obtain ⟨x, hx, rfl⟩ := List.mem_map.1 he
          exact hr x (List.mem_filter.1 hx).1
        · exact List.pairwise_map.2 (hs.filter _)
        · refine hk h6 acc hbd6 (hb1.trans ((hb.trans hb6).none _)) (ht1.keep hbd1 (hb.trans hb6)) (hva.keep (hva.lt hbd') hb6 (.inr rfl)) fun q hq => Nat.le_trans hb1.1 (hfr q hq)
  exact main 100000 0 h1 .ns (by omega) (by omega) hbd1 (But.refl _ _) ⟨rfl, .inl ⟨rfl, rfl⟩⟩ fun q hq => by cases hq
end Go.Proofs.Ytfkbofbdonmpfaa.Wb
