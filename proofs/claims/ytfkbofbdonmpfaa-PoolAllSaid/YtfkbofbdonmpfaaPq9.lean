/- As many as there are addresses get one each: the walks of 'Offer', 'End'; the lists. -/
import Derived.Test.YtfkbofbdonmpfaaPq8
set_option linter.unusedSimpArgs false
set_option linter.unusedVariables false
set_option linter.unusedSectionVars false
set_option linter.unnecessarySimpa false
set_option maxRecDepth 100000
namespace Go.Proofs.Ytfkbofbdonmpfaa.Wb
open Go.Am

theorem offer_ok {n : Nat} (hn : 6 ≤ n) {r : Nat} {c : Option Nat} {first last tn t m : Int} (hT : 0 ≤ timeP tn t) (hp : 0 ≤ first ∧ first ≤ last ∧ last ≤ 255) {es : List He} (hl : es.length ≤ 10000) (hby : ∀ e ∈ es, isM (timeP tn t) m e = false) {kt : Int × Int} (hrk : ∀ a, first ≤ a → a ≤ last → freeE (timeP tn t) es a = true → rankE m es a = kt) {h : H} {K : V → H → Prop} (ht : PL h r c first last tn es)
    (k1 : ∀ h', Bd h' → But h h' (some r) → PL h' r c first last (timeP tn t) es → (∀ a, first ≤ a → a ≤ last → freeE (timeP tn t) es a = false) → K (.t [.a zeV, .i .i64 7]) h')
    (k2 : ∀ h' a, Bd h' → But h h' (some r) → PL h' r c first last (timeP tn t) es → first ≤ a → a ≤ last → freeE (timeP tn t) es a = true → (∀ b, first ≤ b → b < a → freeE (timeP tn t) es b = false) → K (.t [.a (adV a), .i .i64 0]) h') : Ok Try.prog n 44 [.p r 0, .a (maV m), .a zeV, .i .i64 t] h K := by
  obtain ⟨n, rfl⟩ := Nat.exists_eq_add_of_le' hn
  refine Ok.bd (K44 (n := n + 5) fun hbd => ?_)
  obtain ⟨hr, hc⟩ := ht.lt hbd
  simp only [F44]
  refine bx_a (cs := maV m) rfl fun p h1 hpm hb1 hp1 hp2 => ?_
  refine bx_a (cs := zeV) rfl fun w h2 hw hb2 hw1 hw2 => ?_
  refine al_a tt28 fun z h3 hz hb3 hz1 hz2 => ?_
  have hb03 := (hb1.trans hb2).trans hb3
  rw [cf_k]
  refine time_ok (by omega) (ht.keep hbd hb03) fun h4 hbd4 hb4 ht4 => ?_
  generalize timeP tn t = T at hT hby hrk k1 k2 ht4 ⊢
  have hp4 := hb4.get (Nat.lt_of_lt_of_le hp2 (hb2.trans hb3).1) (by intro e; cases e; omega) ((hb2.trans hb3).get hp2 (by simp) hpm)
  have hw4 := hb4.get (Nat.lt_of_lt_of_le hw2 hb3.1) (by intro e; cases e; have := hb1.1; omega) (hb3.get hw2 (by simp) hw)
  have hz4 := hb4.get hz2 (by intro e; cases e; have := (hb1.trans hb2).1; omega) hz
  have hpl : p < h4.next := Nat.lt_of_lt_of_le hp2 (Nat.le_trans (hb2.trans hb3).1 hb4.1)
  have hwl : w < h4.next := Nat.lt_of_lt_of_le hw2 (Nat.le_trans hb3.1 hb4.1)
  have hzl : z < h4.next := Nat.lt_of_lt_of_le hz2 hb4.1
  have hb04 : But h h4 (some r) := (hb03.none _).trans hb4
  rw [ln_w (sz := 6) hp4 rfl, cf_k]
  refine kept_ok (by omega) ht4 fun h5 hbd5 hb5 => ?_
  simp (disch := omega) only [ws, List.getElem?_cons_zero, List.getElem?_cons_succ]
  refine al_a tt28 fun y h6 hy hb6 hy1 hy2 => ?_
  refine sn_w (w := .a zeV) (cs := zeV) hy rfl rfl rfl rfl fun h7 hg7 hb7 => ?_
  have hb47 : But h4 h7 none := (hb5.trans hb6).over hb7 (.inr fun r e => by cases e; exact Nat.le_trans hb5.1 hy1)
  have hbd7 := hb47.2.2 hbd4
  have hp7 := hb47.get hpl (by simp) hp4
  simp (disch := omega) only [F44_12, ln_w (sz := 6) hp7 rfl, cf_k]
  refine by_ok (by omega) (ht4.keep hbd4 hb47) hl fun h8 hbd8 hb8 => ?_
  have hf : fndP (isM T m) es 0 = -1 := fndP_none hby
  have hb48 := hb47.trans hb8
  have hw8 := hb48.get hwl (by simp) hw4
  simp (disch := omega) only [ws, hf, dec_f, F44_17, ln_w (sz := 4) hw8 rfl]
  refine freez_ok (by omega) hp.1 (ht4.keep hbd4 hb48) fun h9 hbd9 hb9 => ?_
  have hb49 := hb48.trans hb9
  have hp9 := hb49.get hpl (by simp) hp4
  simp (disch := omega) only [ws, F44_22, ln_w (sz := 6) hp9 rfl]
  have fin : ∀ (h10 : H) (l : List V) (e : Int), Bd h10 → But h9 h10 none → l.length = 4 → l.all oneV = true → (∀ h', Bd h' → But h h' (some r) → PL h' r c first last T es → K (.t [.a l, .i .i64 e]) h') → pw.ex 0 (.t [.a l, .i .i64 e]) fun v29 => pw.ex 1 (.t [.a l, .i .i64 e]) fun v30 => pw.sn 4 (.p z 0) v29 h10 fun h31 => pw.ln 4 (.p z 0) h31 fun v33 => Bd h31 → K (.t [v33, v30]) h31 := by
    intro h10 l e hbd10 hb10 hl4 hl1 hK
    simp (disch := omega) only [ws, List.getElem?_cons_zero, List.getElem?_cons_succ]
    have hb410 := hb49.trans hb10
    have hz10 := hb410.get hzl (by simp) hz4
    refine sn_w (w := .a l) (cs := l) hz10 rfl hl4 rfl hl1 fun h11 hg11 hb11 => ?_
    rw [ln_w (sz := 4) hg11 hl4]
    intro hbd11
    have hh : h.next ≤ z := Nat.le_trans (hb1.trans hb2).1 hz1
    obtain ⟨lv, mb, kk, f1, f2, f3, f4, f5, f6, f7⟩ := ht4.keep hbd4 hb410
    refine hK h11 hbd11 ((hb04.trans (hb410.none _)).over hb11 (.inr fun y e => by cases e; exact hh)) ⟨lv, mb, kk, hb11.get (hbd10 _ _ f1) (by intro e; cases e; omega) f1, f2.keep (f2.lt hbd10) hb11 (.inl fun e => by have := hc z (f3.symm.trans e); omega), f3, f4, hb11.get (hbd10 _ _ f5) (fun e => ?_) f5, f6, f7⟩
    cases e
    rw [hz10] at f5
    cases f5
  refine next_ok (by omega) hT hp hl hrk (ht4.keep hbd4 hb49) (fun h10 hbd10 hb10 hno => ?_) fun h10 a hbd10 hb10 q1 q2 q3 q4 => ?_
  · exact fin h10 zeV 7 hbd10 hb10 rfl rfl fun h' b1 b2 b3 => k1 h' b1 b2 b3 hno
  · exact fin h10 (adV a) 0 hbd10 hb10 rfl rfl fun h' b1 b2 b3 => k2 h' a b1 b2 b3 q1 q2 q3 q4

theorem end_ok {n : Nat} (hn : 4 ≤ n) {r j : Nat} {c : Option Nat} {first last now a m : Int} {es : List He} (hl : es.length ≤ 10000) (hj : j < es.length) (hf : fndP (isA a) es 0 = (j : Nat)) (hm : es[j].l.m = m) {h : H} {K : V → H → Prop} (ht : PL h r c first last now es)
    (hk : ∀ h', Bd h' → But2 h h' r c → PL h' r c first last now (es.set j ⟨{ es[j].l with un := 0 }, es[j].told⟩) → K (.b true) h') : Ok Try.prog n 50 [.p r 0, .a (maV m), .a (adV a)] h K := by
  obtain ⟨n, rfl⟩ := Nat.exists_eq_add_of_le' hn
  refine Ok.bd (K50 (n := n + 3) fun hbd => ?_)
  simp only [F50]
  refine bx_a (cs := maV m) rfl fun p h1 hpm hb1 hp1 hp2 => ?_
  refine bx_a (cs := adV a) rfl fun w h2 hw hb2 hw1 hw2 => ?_
  have hb02 := hb1.trans hb2
  rw [ln_w (sz := 4) hw rfl, cf_k]
  refine of_ok' (by omega) (ht.keep hbd hb02) hl fun h3 hbd3 hb3 => ?_
  have hb03 := hb02.trans hb3
  have hp3 := (hb2.trans hb3).get hp2 (by simp) hpm
  obtain ⟨lv, mb, kk, f1, f2, f3, f4, f5, f6, f7⟩ := ht.keep hbd hb03
  have r3 : ∀ κ : V → Prop, pw.l1 (.p r (0 + 3)) h3 κ = κ lv := fun κ => l1_a f1 rfl
  rw [hf]
  simp (disch := omega) only [ws, dec_f, r3]
  refine vece_at encH_len f2 (i := j) rfl hj fun b ha => ?_
  have l0 : ∀ κ : V → Prop, pw.ln 6 (.p b (j * 12 + 0 + 0)) h3 κ = κ (.a (maV es[j].l.m)) := fun κ => by
    rw [Nat.add_assoc, ha.getn (f := 0 + 0) (n := 6) (by omega)]; rfl
  simp (disch := omega) only [ws, l0, ln_w (sz := 6) hp3 rfl, nem_ok, hm, decide_true, Bool.not_true, F50_11, r3]
  refine vece_at encH_len f2 (i := j) rfl hj fun b2 ha2 => ?_
  simp only [fa_p, Nat.add_assoc]
  refine vece_set1 encH_len f2 (i := j) hj ha2.blk (f := 0 + 10) (by omega) rfl (e' := ⟨{ es[j].l with un := 0 }, es[j].told⟩) rfl fun h4 hv4 hb4 => ?_
  intro hbd4
  exact hk h4 hbd4 ((hb03.two (.inl rfl)).trans (hb4.two (.inr (.inr f3)))) ⟨lv, mb, kk, hb4.get (hbd3 _ _ f1) (fun e => f4 (f3.symm.trans e.symm)) f1, hv4, f3, f4, hb4.get (hbd3 _ _ f5) (fun e => f7 (f3.symm.trans e.symm)) f5, f6, f7⟩

/-! ### The lists -/
def gE (e i : Nat) : He := ⟨⟨i, 100 + i, if i = e then 0 else 60⟩, false⟩
def lisG (e k : Nat) : List He := (List.range k).map (gE e)
theorem lisG_len (e k : Nat) : (lisG e k).length = k := by simp [lisG]
theorem lisG_get {e k i : Nat} (h : i < (lisG e k).length) : (lisG e k)[i] = gE e i := by simp [lisG]
theorem lisG_mem {e k : Nat} {x : He} (h : x ∈ lisG e k) : ∃ i, i < k ∧ x = gE e i := by
  unfold lisG at h
  obtain ⟨i, hi, rfl⟩ := List.mem_map.1 h
  exact ⟨i, List.mem_range.1 hi, rfl⟩
theorem lisG_pw (e k : Nat) : (lisG e k).Pairwise fun x y => x.l.a ≤ y.l.a := by
  unfold lisG
  rw [List.pairwise_map]
  refine List.pairwise_lt_range.imp fun {a b} h => ?_
  simp only [gE]; omega
theorem lisG_succ {e k : Nat} (h : k ≠ e) : lisG e (k + 1) = lisG e k ++ [⟨⟨(k : Int), 100 + (k : Int), 0 + 60⟩, false⟩] := by
  unfold lisG
  rw [List.range_succ, List.map_append]
  congr 1
  simp only [List.map_cons, List.map_nil, gE, if_neg h]
  rfl
theorem lisG_fnd {e k i : Nat} (h : i < k) : fndP (isA (100 + (i : Int))) (lisG e k) 0 = (i : Nat) := by
  have h0 : 0 ≤ fndP (isA (100 + (i : Int))) (lisG e k) 0 := by
    refine Classical.byContradiction fun h1 => ?_
    have := fndP_neg (pr := isA (100 + (i : Int))) (es := lisG e k) (k := 0) (by omega) (gE e i) (List.mem_map.2 ⟨i, List.mem_range.2 h, rfl⟩)
    simp [isA, gE] at this
  obtain ⟨j, hj, h1, h2, _⟩ := fndP_some h0
  rw [lisG_get] at h2
  have h3 : (100 : Int) + (j : Int) = 100 + (i : Int) := of_decide_eq_true h2
  rw [h1]
  omega
theorem lisG_non {e k : Nat} {a : Int} (h : a < 100 ∨ 100 + (k : Int) ≤ a) : fndP (isA a) (lisG e k) 0 = -1 := fndP_none fun x hx => by
  obtain ⟨i, hi, rfl⟩ := lisG_mem hx
  show decide ((100 : Int) + (i : Int) = a) = false
  exact decide_eq_false (by omega)
theorem lisG_d {e k i : Nat} (h : i < k) : ((lisG e k).getD (fndP (isA (100 + (i : Int))) (lisG e k) 0).toNat xH) = gE e i := by
  rw [lisG_fnd h, Int.toNat_natCast, List.getD_eq_getElem?_getD, List.getElem?_eq_getElem (by rw [lisG_len]; exact h), lisG_get]; rfl
theorem lisG_free {e k i : Nat} (h : i < k) : freeE 0 (lisG e k) (100 + (i : Int)) = decide (i = e) := by
  unfold freeE
  rw [lisG_d h, lisG_fnd h, decide_eq_true (by omega), Bool.true_and]
  by_cases c : i = e
  · simp [gE, c]
  · simp [gE, c]
theorem lisG_freen {e k : Nat} {a : Int} (h : a < 100 ∨ 100 + (k : Int) ≤ a) : freeE 0 (lisG e k) a = true := by
  unfold freeE
  rw [lisG_non h, decide_eq_false (by omega), Bool.false_and]; rfl
theorem lisG_rank {e k : Nat} {a m : Int} (h : a < 100 ∨ 100 + (k : Int) ≤ a) : rankE m (lisG e k) a = (1, 0) := by
  unfold rankE
  rw [lisG_non h, if_pos (by omega)]
theorem lisG_set {e k j : Nat} (he : k ≤ e) (hj : j < k) : (lisG e k).set j ⟨{ (gE e j).l with un := 0 }, (gE e j).told⟩ = lisG j k := by
  refine List.ext_getElem (by simp [lisG]) fun i h1 h2 => ?_
  rw [List.getElem_set, lisG_get, lisG_get]
  rw [List.length_set, lisG_len] at h1
  by_cases c : j = i
  · subst c
    simp [gE]
  · rw [if_neg c]
    simp only [gE, if_neg (show ¬ i = e by omega), if_neg (show ¬ i = j from fun h => c h.symm)]
theorem cnt_ne (e : Nat) : ∀ k : Nat, ((List.range k).filter fun i => !decide (i = e)).length = if e < k then k - 1 else k
  | 0 => by simp
  | k + 1 => by
    have := cnt_ne e k
    rw [List.range_succ, List.filter_append, List.length_append, this]
    by_cases c : k = e
    · subst c
      rw [List.filter_cons_of_neg (p := fun i => !decide (i = k)) (by simp)]
      simp
    · rw [List.filter_cons_of_pos (p := fun i => !decide (i = e)) (by simp [c])]
      simp only [List.filter_nil, List.length_singleton]
      split <;> split <;> omega
theorem lisG_all0 {e k : Nat} (h : e < k) : (allL 0 (lisG e k)).length = k - 1 := by
  unfold allL lisG
  rw [List.length_map, List.filter_map, List.length_map]
  have e1 : ((fun x : He => decide (0 < x.l.un)) ∘ gE e) = fun i => !decide (i = e) := by
    funext i
    simp only [Function.comp, gE]
    by_cases c : i = e <;> simp [c]
  rw [e1, cnt_ne, if_pos h]
theorem lisG_all60 (e k : Nat) : allL 60 (lisG e k) = [] := by
  unfold allL
  rw [List.filter_eq_nil_iff.2, List.map_nil]
  intro x hx
  obtain ⟨i, _, rfl⟩ := lisG_mem hx
  simp only [gE]
  by_cases c : i = e <;> simp [c]
theorem lisG_tick (e k : Nat) : (tickL 60 (lisG e k)).length = k := by
  unfold tickL
  rw [List.length_map, List.filter_eq_self.2, lisG_len]
  intro x hx
  obtain ⟨i, _, rfl⟩ := lisG_mem hx
  simp only [overE, gE]
  by_cases c : i = e <;> simp [c]
end Go.Proofs.Ytfkbofbdonmpfaa.Wb
