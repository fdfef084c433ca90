/- Who has which address, with fixed devices and barred addresses: 'Offer', 'All'. -/
import Derived.Test.YtfkbofbdonmpfaaPr12
set_option linter.unusedSimpArgs false
set_option linter.unusedVariables false
set_option linter.unusedSectionVars false
set_option linter.unnecessarySimpa false
set_option maxRecDepth 100000
namespace Go.Proofs.Ytfkbofbdonmpfaa.Wb
open Go.Am

/-- Whose an entry may be. -/
def OwnC (fx : List Le) (first last : Int) (e : He) : Prop := (∃ x ∈ fx, x.m = e.l.m ∧ x.a = e.l.a) ∨ ((∀ x ∈ fx, x.m ≠ e.l.m) ∧ first ≤ e.l.a ∧ e.l.a ≤ last ∧ ∀ x ∈ fx, x.a ≠ e.l.a)

theorem fnd_uniq {es : List He} (hd : es.Pairwise fun x y => x.l.a ≠ y.l.a) {i : Nat} (hi : i < es.length) : fndP (isA es[i].l.a) es 0 = (i : Nat) := by
  have h0 : 0 ≤ fndP (isA es[i].l.a) es 0 := by
    refine Classical.byContradiction fun h1 => ?_
    have := fndP_neg (pr := isA es[i].l.a) (es := es) (k := 0) (by omega) es[i] (List.getElem_mem hi)
    simp [isA] at this
  obtain ⟨j, hj, h1, h2, _⟩ := fndP_some h0
  have h3 : es[j].l.a = es[i].l.a := of_decide_eq_true h2
  have hij : j = i := by
    rcases Nat.lt_trichotomy j i with h | h | h
    · exact absurd h3 (List.pairwise_iff_getElem.1 hd j i hj hi h)
    · exact h
    · exact absurd h3.symm (List.pairwise_iff_getElem.1 hd i j hi hj h)
  rw [h1, hij, Nat.zero_add]

set_option maxHeartbeats 1000000 in
theorem offerG_ok {n : Nat} (hn : 7 ≤ n) {r : Nat} {c : Option Nat} {fx : List Le} {ms : List (V × V × Nat)} {first last tn t m w : Int} (hfx : fx.length ≤ 10000) (hfa : ∀ x ∈ fx, 0 ≤ x.a ∧ x.a ≤ 255) (hp : 0 ≤ first ∧ first ≤ last ∧ last ≤ 255) (hw : 0 ≤ w ∧ w ≤ 255) {es : List He} (hl : es.length ≤ 10000) (hd : es.Pairwise fun x y => x.l.a ≠ y.l.a) (ho : ∀ e ∈ es, OwnC fx first last e) {h : H} {K : V → H → Prop} (ht : PG h r c fx ms first last tn es)
    (k1 : ∀ h', Bd h' → But h h' (some r) → PG h' r c fx ms first last (timeP tn t) es → K (.t [.a zeV, .i .i64 7]) h')
    (k2 : ∀ h' a, Bd h' → But h h' (some r) → PG h' r c fx ms first last (timeP tn t) es → 0 ≤ a ∧ a ≤ 255 → MayC (timeP tn t) fx ms first last m a es → K (.t [.a (adV a), .i .i64 0]) h') : Ok Try.prog n 44 [.p r 0, .a (maV m), .a (adV w), .i .i64 t] h K := by
  obtain ⟨n, rfl⟩ := Nat.exists_eq_add_of_le' hn
  refine Ok.bd (K44 (n := n + 6) fun hbd => ?_)
  obtain ⟨hr, hc⟩ := ht.lt hbd
  simp only [F44]
  refine bx_a (cs := maV m) rfl fun p h1 hpm hb1 hp1 hp2 => ?_
  refine bx_a (cs := adV w) rfl fun w' h2 hw2 hb2 hw1 hw3 => ?_
  refine al_a tt28 fun z h3 hz hb3 hz1 hz2 => ?_
  have hb03 := (hb1.trans hb2).trans hb3
  rw [cf_k]
  refine timeG_ok (by omega) (ht.keep hbd hb03) fun h4 hbd4 hb4 ht4 => ?_
  generalize timeP tn t = T at k1 k2 ht4 ⊢
  have hp4 := hb4.get (Nat.lt_of_lt_of_le hp2 (hb2.trans hb3).1) (by intro e; cases e; omega) ((hb2.trans hb3).get hp2 (by simp) hpm)
  have hw4 := hb4.get (Nat.lt_of_lt_of_le hw3 hb3.1) (by intro e; cases e; have := hb1.1; omega) (hb3.get hw3 (by simp) hw2)
  have hz4 := hb4.get hz2 (by intro e; cases e; have := (hb1.trans hb2).1; omega) hz
  have hpl : p < h4.next := Nat.lt_of_lt_of_le hp2 (Nat.le_trans (hb2.trans hb3).1 hb4.1)
  have hwl : w' < h4.next := Nat.lt_of_lt_of_le hw3 (Nat.le_trans hb3.1 hb4.1)
  have hzl : z < h4.next := Nat.lt_of_lt_of_le hz2 hb4.1
  have hb04 : But h h4 (some r) := (hb03.none _).trans hb4
  have fin : ∀ (h10 : H) (l : List V) (e : Int), Bd h10 → But h4 h10 none → l.length = 4 → l.all oneV = true → (∀ h', Bd h' → But h h' (some r) → PG h' r c fx ms first last T es → K (.t [.a l, .i .i64 e]) h') → pw.sn 4 (.p z 0) (.a l) h10 fun h31 => pw.ln 4 (.p z 0) h31 fun v33 => Bd h31 → K (.t [v33, .i .i64 e]) h31 := by
    intro h10 l e hbd10 hb410 hl4 hl1 hK
    have hz10 := hb410.get hzl (by simp) hz4
    refine sn_w (w := .a l) (cs := l) hz10 rfl hl4 rfl hl1 fun h11 hg11 hb11 => ?_
    rw [ln_w (sz := 4) hg11 hl4]
    intro hbd11
    have hh : h.next ≤ z := Nat.le_trans (hb1.trans hb2).1 hz1
    exact hK h11 hbd11 ((hb04.trans (hb410.none _)).over hb11 (.inr fun y e => by cases e; exact hh)) ((ht4.keep hbd4 hb410).keepz hbd10 hz10 hb11)
  rw [ln_w (sz := 6) hp4 rfl, cf_k]
  refine keptG_ok (by omega) hfx ht4 (fun h5 hbd5 hb5 hno => ?_) fun h5 x hbd5 hb5 hx hxm => ?_
  rotate_left
  · simp (disch := omega) only [ws, List.getElem?_cons_zero, List.getElem?_cons_succ]
    refine al_a tt28 fun y h6 hy hb6 hy1 hy2 => ?_
    refine sn_w (w := .a (adV x.a)) (cs := adV x.a) hy rfl rfl rfl rfl fun h7 hg7 hb7 => ?_
    have hb47 : But h4 h7 none := (hb5.trans hb6).over hb7 (.inr fun r e => by cases e; exact Nat.le_trans hb5.1 hy1)
    simp (disch := omega) only [ws, ln_w (sz := 4) hg7 rfl]
    refine fin h7 (adV x.a) 0 (hb47.2.2 hbd4) hb47 rfl rfl fun h' b1 b2 b3 => k2 h' x.a b1 b2 b3 (hfa x hx) (.inl ⟨x, hx, hxm, rfl⟩)
  simp (disch := omega) only [ws, List.getElem?_cons_zero, List.getElem?_cons_succ]
  refine al_a tt28 fun y h6 hy hb6 hy1 hy2 => ?_
  refine sn_w (w := .a zeV) (cs := zeV) hy rfl rfl rfl rfl fun h7 hg7 hb7 => ?_
  have hb47 : But h4 h7 none := (hb5.trans hb6).over hb7 (.inr fun r e => by cases e; exact Nat.le_trans hb5.1 hy1)
  have hbd7 := hb47.2.2 hbd4
  have hp7 := hb47.get hpl (by simp) hp4
  simp (disch := omega) only [F44_12, ln_w (sz := 6) hp7 rfl, cf_k]
  refine byG_ok (by omega) (ht4.keep hbd4 hb47) hl fun h8 hbd8 hb8 => ?_
  have hb48 := hb47.trans hb8
  have hw8 := hb48.get hwl (by simp) hw4
  have ht8 := ht4.keep hbd4 hb48
  by_cases hneg : fndP (isM T m) es 0 < 0
  rotate_left
  · obtain ⟨i, hi, g1, g2, _⟩ := fndP_some (show 0 ≤ fndP (isM T m) es 0 by omega)
    rw [Nat.zero_add] at g1
    obtain ⟨lv, fv, mb, kk, f1, f2, f3⟩ := id ht8
    have r3 : ∀ κ : V → Prop, pw.l1 (.p r (0 + 3)) h8 κ = κ lv := fun κ => l1_a f1 rfl
    rw [g1]
    simp (disch := omega) only [ws, dec_t, r3]
    refine vece_at encH_len f2 (i := i) rfl hi fun b hab => ?_
    have l6 : ∀ κ : V → Prop, pw.ln 4 (.p b (i * 12 + 0 + 6)) h8 κ = κ (.a (adV es[i].l.a)) := fun κ => by
      rw [Nat.add_assoc, hab.getn (f := 0 + 6) (n := 4) (by omega)]; rfl
    simp (disch := omega) only [ws, l6]
    have hmi : es[i].l.m = m ∧ T < es[i].l.un := by
      have := g2
      simp only [isM, Bool.and_eq_true, decide_eq_true_eq] at this
      exact this
    have hown := ho es[i] (List.getElem_mem hi)
    have hno2 : ¬ ∃ x ∈ fx, x.m = es[i].l.m ∧ x.a = es[i].l.a := fun ⟨x, hx, hxm, _⟩ => hno x hx (hxm.trans hmi.1)
    rcases hown with h | ⟨_, o1, o2, o3⟩
    · exact absurd h hno2
    refine fin h8 (adV es[i].l.a) 0 hbd8 hb48 rfl rfl fun h' b1 b2 b3 => k2 h' es[i].l.a b1 b2 b3 (by omega) (.inr ⟨hno, o1, o2, o3, .inl ⟨i, hi, fnd_uniq hd hi, hmi.2, hmi.1⟩⟩)
  simp (disch := omega) only [ws, dec_f, F44_17, ln_w (sz := 4) hw8 rfl]
  refine freeG_ok (by omega) hfx hw hl ht8 fun h9 fb hbd9 hb9 hfb => ?_
  have hb49 := hb48.trans hb9
  have hp9 := hb49.get hpl (by simp) hp4
  have hw9 := hb49.get hwl (by simp) hw4
  cases fb with
  | true =>
    obtain ⟨q1, q2, q3, q4, q5⟩ := hfb rfl
    simp (disch := omega) only [ws, ln_w (sz := 4) hw9 rfl]
    exact fin h9 (adV w) 0 hbd9 hb49 rfl rfl fun h' b1 b2 b3 => k2 h' w b1 b2 b3 hw (.inr ⟨hno, q1, q2, q3, .inr ⟨q4, q5⟩⟩)
  | false =>
    simp (disch := omega) only [ws, F44_22, ln_w (sz := 6) hp9 rfl]
    refine nextG_ok (by omega) hfx hp hl (ht4.keep hbd4 hb49) (fun h10 hbd10 hb10 => ?_) fun h10 a hbd10 hb10 hfr => ?_
    · simp (disch := omega) only [ws, List.getElem?_cons_zero, List.getElem?_cons_succ]
      exact fin h10 zeV 7 hbd10 (hb49.trans hb10) rfl rfl fun h' b1 b2 b3 => k1 h' b1 b2 b3
    · obtain ⟨q1, q2, q3, q4, q5⟩ := hfr
      simp (disch := omega) only [ws, List.getElem?_cons_zero, List.getElem?_cons_succ]
      exact fin h10 (adV a) 0 hbd10 (hb49.trans hb10) rfl rfl fun h' b1 b2 b3 => k2 h' a b1 b2 b3 (by omega) (.inr ⟨hno, q1, q2, q3, .inr ⟨q4, q5⟩⟩)

set_option maxHeartbeats 1000000 in
theorem allG_ok {n : Nat} (hn : 13 ≤ n) {r : Nat} {c : Option Nat} {fx : List Le} {ms : List (V × V × Nat)} {first last tn t : Int} {es : List He} (hl : es.length ≤ 12) (hr : ∀ e ∈ es, 0 ≤ e.l.a ∧ e.l.a ≤ 255) {h : H} {K : V → H → Prop} (ht : PG h r c fx ms first last tn es)
    (hk : ∀ h' v ls, Bd h' → But h h' (some r) → PG h' r c fx ms first last (timeP tn t) es → VecE h' v 92 11 encL ls → ls.Perm (allL (timeP tn t) es) → (∀ q, vblk v = some q → h.next ≤ q) → K v h') : Ok Try.prog n 47 [.p r 0, .i .i64 t] h K := by
  obtain ⟨n, rfl⟩ := Nat.exists_eq_add_of_le' (show 1 ≤ n by omega)
  refine K47 fun hbd => ?_
  simp (disch := omega) only [F47, cf_k]
  refine timeG_ok (by omega) ht fun h1 hbd1 hb1 ht1 => ?_
  generalize timeP tn t = T at hk ht1 ⊢
  obtain ⟨lv, fv, mb, kk, g1, g2, g3⟩ := id ht1
  have r3 : ∀ κ : V → Prop, pw.l1 (.p r (0 + 3)) h1 κ = κ lv := fun κ => l1_a g1 rfl
  simp (disch := omega) only [ws, r3, vece_len tt142 rfl g2]
  have main : ∀ (fuel k : Nat) (h' : H) (acc : V), es.length < fuel + k → k ≤ es.length → Bd h' → But h1 h' none → VecE h' acc 92 11 encL (allL T (es.take k)) → (∀ q, vblk acc = some q → h1.next ≤ q) → F47_19 pw xx (Ok Try.prog n) K fuel (.p r 0) acc lv (.i .i64 (es.length : Nat)) (.i .i64 (k : Nat)) h' := by
    intro fuel
    induction fuel with
    | zero => intro k h' acc a1 a2; omega
    | succ fuel ih =>
      intro k h' acc a1 a2 hbd' hb hva hfr
      rw [S47_19]
      have hal : (allL T (es.take k)).length ≤ k := by
        unfold allL
        rw [List.length_map]
        refine Nat.le_trans (List.length_filter_le _ _) ?_
        rw [List.length_take]; omega
      by_cases hlt : k < es.length
      · simp (disch := omega) only [ws, dec_t, F47_26]
        refine vece_at encH_len (g2.keep (g2.lt hbd1) hb (.inr rfl)) rfl hlt fun b0 ha => ?_
        rw [ha.all]
        refine al_a tt148 fun q h4 hq hb4 hq1 hq2 => ?_
        refine sn_w (w := .a (encH es[k])) (cs := encH es[k]) hq rfl (encH_len _) rfl (encH_one _) fun h5 hq5 hb5 => ?_
        have hb45 : But h' h5 none := hb4.over hb5 (.inr fun r e => by cases e; exact hq1)
        have hbd5 := hb45.2.2 hbd'
        have hb15 := hb.trans hb45
        refine liveG_ok (by omega) hlt (ht1.keep hbd1 hb15) fun _ => ?_
        have e1 : es.take (k + 1) = es.take k ++ [es[k]] := List.take_succ_eq_append_getElem hlt
        have e2 : allL T (es.take (k + 1)) = allL T (es.take k) ++ (if T < es[k].l.un then [es[k].l] else []) := by
          unfold allL
          rw [e1, List.filter_append, List.map_append]
          by_cases c : T < es[k].l.un <;> simp [c]
        have hva5 := hva.keep (hva.lt hbd') hb45 (.inr rfl)
        by_cases c : T < es[k].l.un
        · rw [if_pos c] at e2
          have l11 : ∀ κ : V → Prop, pw.ln 11 (.p q (0 + 0)) h5 κ = κ (.a (encL es[k].l)) := fun κ => by rw [ln_a (sz := 11) hq5 (by simp [encH])]; rfl
          simp (disch := omega) only [ws, dec_t c, l11]
          refine acc_ok hva5 hbd5 (by omega) fun v6 h6 hbd6 hv6 hb6 hq6 => ?_
          simp (disch := omega) only [F47_32, ws]
          refine ih (k + 1) h6 v6 (by omega) (by omega) hbd6 (hb15.over hb6 (.inr fun z e => hfr z e)) (by rw [e2]; exact hv6) fun z hz => ?_
          rcases hq6 with h | ⟨y, h, hy⟩
          · exact hfr z (h ▸ hz)
          · rw [h] at hz; cases hz; exact Nat.le_trans hb15.1 hy
        · rw [if_neg c, List.append_nil] at e2
          simp (disch := omega) only [ws, dec_f c, F47_32]
          exact ih (k + 1) h5 acc (by omega) (by omega) hbd5 hb15 (by rw [e2]; exact hva5) hfr
      · simp (disch := omega) only [ws, dec_f, F47_8]
        rw [List.take_of_length_le (by omega)] at hva hal
        refine sortedp_ok (by omega) (by omega) ?_ hva fun h6 ls hbd6 hb6 hv6 hpm => ?_
        · intro e he
          unfold allL at he
          obtain ⟨x, hx, rfl⟩ := List.mem_map.1 he
          exact hr x (List.mem_filter.1 hx).1
        · have hb16 : But h1 h6 none := hb.over hb6 (.inr fun z e => hfr z e)
          exact hk h6 acc ls hbd6 (hb1.trans (hb16.none _)) (ht1.keep hbd1 hb16) hv6 hpm fun q hq => Nat.le_trans hb1.1 (hfr q hq)
  exact main 100000 0 h1 .ns (by omega) (by omega) hbd1 (But.refl _ _) ⟨rfl, .inl ⟨rfl, rfl⟩⟩ fun q hq => by cases hq
end Go.Proofs.Ytfkbofbdonmpfaa.Wb
