/- No two live leases are of one address: the invariant. -/
import Derived.Test.YtfkbofbdonmpfaaPr13
set_option linter.unusedSimpArgs false
set_option linter.unusedVariables false
set_option linter.unusedSectionVars false
set_option linter.unnecessarySimpa false
set_option maxRecDepth 100000
namespace Go.Proofs.Ytfkbofbdonmpfaa.Wb
open Go.Am

/-- What holds of the table throughout. -/
structure Inv (fx : List Le) (first last now : Int) (es : List He) : Prop where
  dist : es.Pairwise fun x y => x.l.a ≠ y.l.a
  own : ∀ e ∈ es, OwnC fx first last e
  macs : es.Pairwise fun x y => now < x.l.un → now < y.l.un → x.l.m ≠ y.l.m
  rng : 0 ≤ now ∧ now ≤ 1099511627776

theorem timeP_le (now t : Int) : now ≤ timeP now t := by unfold timeP; split <;> omega
theorem timeP_rng {now t : Int} (h : 0 ≤ now ∧ now ≤ 1099511627776) : 0 ≤ timeP now t ∧ timeP now t ≤ 1099511627776 := by unfold timeP; split <;> omega
theorem timeP_same (now t : Int) : timeP (timeP now t) t = timeP now t := by
  unfold timeP
  split
  · rw [if_neg (by omega)]
  · rfl
theorem Inv.time {fx : List Le} {first last now : Int} {es : List He} (h : Inv fx first last now es) (t : Int) : Inv fx first last (timeP now t) es :=
  ⟨h.dist, h.own, h.macs.imp fun {x y} k h1 h2 => k (Int.lt_of_le_of_lt (timeP_le now t) h1) (Int.lt_of_le_of_lt (timeP_le now t) h2), timeP_rng h.rng⟩

/-- Less lives: no more than that. -/
def Dn (now : Int) (es es' : List He) : Prop := es'.length = es.length ∧ ∀ i (h : i < es.length) (h' : i < es'.length), es'[i].l.a = es[i].l.a ∧ es'[i].l.m = es[i].l.m ∧ (now < es'[i].l.un → now < es[i].l.un)
theorem Dn.refl (now : Int) (es : List He) : Dn now es es := ⟨rfl, fun i h h' => ⟨rfl, rfl, id⟩⟩
theorem dn_set0 {now : Int} (h0 : 0 ≤ now) (es : List He) (j : Nat) (hj : j < es.length) : Dn now es (es.set j ⟨{ es[j].l with un := 0 }, es[j].told⟩) := by
  refine ⟨by simp, fun i h h' => ?_⟩
  rw [List.getElem_set]
  by_cases e : j = i
  · subst e
    rw [if_pos rfl]
    refine ⟨rfl, rfl, fun h => ?_⟩
    simp only at h
    omega
  · rw [if_neg e]
    exact ⟨rfl, rfl, id⟩
theorem own_of {fx : List Le} {first last : Int} {e e' : He} (h : OwnC fx first last e) (ha : e'.l.a = e.l.a) (hm : e'.l.m = e.l.m) : OwnC fx first last e' := by
  unfold OwnC at h ⊢
  rw [ha, hm]
  exact h
theorem Inv.dn {fx : List Le} {first last now : Int} {es es' : List He} (h : Inv fx first last now es) (d : Dn now es es') : Inv fx first last now es' := by
  obtain ⟨d1, d2⟩ := d
  refine ⟨List.pairwise_iff_getElem.2 fun i j hi hj hij => ?_, fun e he => ?_, List.pairwise_iff_getElem.2 fun i j hi hj hij => ?_, h.rng⟩
  · rw [(d2 i (by omega) hi).1, (d2 j (by omega) hj).1]
    exact List.pairwise_iff_getElem.1 h.dist i j (by omega) (by omega) hij
  · obtain ⟨i, hi, rfl⟩ := List.getElem_of_mem he
    have := d2 i (by omega) hi
    exact own_of (h.own es[i] (List.getElem_mem _)) this.1 this.2.1
  · obtain ⟨_, a2, a3⟩ := d2 i (by omega) hi
    obtain ⟨_, b2, b3⟩ := d2 j (by omega) hj
    rw [a2, b2]
    exact fun x y => List.pairwise_iff_getElem.1 h.macs i j (by omega) (by omega) hij (a3 x) (b3 y)

theorem Inv.end {fx : List Le} {first last T m a : Int} {es es1 : List He} (hi : Inv fx first last T es) (he : EndP T m a es es1) : Inv fx first last T es1 ∧ es1.length = es.length ∧ ∀ k (hk : k < es1.length), T < es1[k].l.un → es1[k].l.m = m → es1[k].l.a = a := by
  have fnd : ∀ k (hk : k < es.length), T < es[k].l.un → es[k].l.m = m → ∃ i, ∃ hi : i < es.length, fndP (isM T m) es 0 = (i : Nat) ∧ es[i].l.m = m ∧ T < es[i].l.un := by
    intro k hk h1 h2
    have h0 : 0 ≤ fndP (isM T m) es 0 := by
      refine Classical.byContradiction fun h3 => ?_
      have := fndP_neg (pr := isM T m) (es := es) (k := 0) (by omega) es[k] (List.getElem_mem hk)
      simp [isM, h1, h2] at this
    obtain ⟨i, hi, g1, g2, _⟩ := fndP_some h0
    rw [Nat.zero_add] at g1
    simp only [isM, Bool.and_eq_true, decide_eq_true_eq] at g2
    exact ⟨i, hi, g1, g2.1, g2.2⟩
  have uniq : ∀ i k (hi2 : i < es.length) (hk : k < es.length), T < es[i].l.un → T < es[k].l.un → es[i].l.m = es[k].l.m → i = k := by
    intro i k hi2 hk h1 h2 h3
    rcases Nat.lt_trichotomy i k with h | h | h
    · exact absurd h3 (List.pairwise_iff_getElem.1 hi.macs i k hi2 hk h h1 h2)
    · exact h
    · exact absurd h3.symm (List.pairwise_iff_getElem.1 hi.macs k i hk hi2 h h2 h1)
  cases he with
  | no H =>
    refine ⟨hi, rfl, fun k hk h1 h2 => ?_⟩
    obtain ⟨i, hi2, g1, g2, g3⟩ := fnd k hk h1 h2
    have e := uniq i k hi2 hk g3 h1 (g2.trans h2.symm)
    subst e
    exact H i hi2 g1
  | yes i hi2 hf ha =>
    have d := dn_set0 hi.rng.1 es i hi2
    refine ⟨hi.dn d, d.1, fun k hk h1 h2 => ?_⟩
    have hk2 : k < es.length := by rw [List.length_set] at hk; exact hk
    obtain ⟨_, d2, d3⟩ := d.2 k hk2 hk
    rw [d2] at h2
    have h4 := d3 h1
    obtain ⟨i2, hi3, g1, g2, g3⟩ := fnd k hk2 h4 h2
    have e := uniq i2 k hi3 hk2 g3 h4 (g2.trans h2.symm)
    have e2 : i2 = i := by omega
    subst e2
    subst e
    simp only [List.getElem_set_self] at h1
    have := hi.rng.1
    omega

theorem Inv.put {fx : List Le} {first last T m a s : Int} {es es1 : List He} (hi : Inv fx first last T es) (hs : 1 ≤ s ∧ s ≤ 1000000000) (hmay : MayP T fx first last m a es 0) (he : EndP T m a es es1) : Inv fx first last T (putA ⟨⟨m, a, T + s⟩, false⟩ a es1) := by
  obtain ⟨h1, hlen, hA⟩ := hi.end he
  have hx : OwnC fx first last ⟨⟨m, a, T + s⟩, false⟩ := by
    rcases hmay rfl with h | ⟨q1, q2, q3, q4, _⟩
    · exact .inl h
    · exact .inr ⟨q1, q2, q3, q4⟩
  unfold putA
  by_cases h0 : 0 ≤ fndP (isA a) es1 0
  · rw [if_pos h0]
    obtain ⟨j, hj, g1, g2, _⟩ := fndP_some h0
    rw [Nat.zero_add] at g1
    have hja : es1[j].l.a = a := of_decide_eq_true g2
    rw [g1, Int.toNat_natCast]
    have addr : ∀ i (h : i < es1.length), ((es1.set j ⟨⟨m, a, T + s⟩, false⟩)[i]'(by rw [List.length_set]; exact h)).l.a = es1[i].l.a := by
      intro i h
      rw [List.getElem_set]
      by_cases e : j = i
      · subst e; rw [if_pos rfl]; exact hja.symm
      · rw [if_neg e]
    refine ⟨List.pairwise_iff_getElem.2 fun i k hi2 hk hik => ?_, fun e he => ?_, List.pairwise_iff_getElem.2 fun i k hi2 hk hik => ?_, h1.rng⟩
    · rw [List.length_set] at hi2 hk
      rw [addr i hi2, addr k hk]
      exact List.pairwise_iff_getElem.1 h1.dist i k hi2 hk hik
    · rcases List.mem_or_eq_of_mem_set he with h | h
      · exact h1.own e h
      · rw [h]; exact hx
    · rw [List.length_set] at hi2 hk
      rw [List.getElem_set, List.getElem_set]
      by_cases e1 : j = i
      · subst e1
        rw [if_pos rfl, if_neg (show ¬ j = k by omega)]
        intro _ l2 hm
        have := hA k hk l2 hm.symm
        exact List.pairwise_iff_getElem.1 h1.dist j k hi2 hk hik (hja.trans this.symm)
      · rw [if_neg e1]
        by_cases e2 : j = k
        · subst e2
          rw [if_pos rfl]
          intro l1 _ hm
          have := hA i hi2 l1 hm
          exact List.pairwise_iff_getElem.1 h1.dist i j hi2 hk hik (this.trans hja.symm)
        · rw [if_neg e2]
          exact List.pairwise_iff_getElem.1 h1.macs i k hi2 hk hik
  · rw [if_neg h0]
    have hno : ∀ e ∈ es1, e.l.a ≠ a := fun e he => by
      have := fndP_neg (pr := isA a) (es := es1) (k := 0) (by omega) e he
      simpa [isA] using this
    refine ⟨List.pairwise_append.2 ⟨h1.dist, List.pairwise_singleton _ _, fun x hx y hy => ?_⟩, fun e he => ?_, List.pairwise_append.2 ⟨h1.macs, List.pairwise_singleton _ _, fun x hx y hy => ?_⟩, h1.rng⟩
    · rw [List.mem_singleton.1 hy]; exact hno x hx
    · rcases List.mem_append.1 he with h | h
      · exact h1.own e h
      · rw [List.mem_singleton.1 h]; exact hx
    · rw [List.mem_singleton.1 hy]
      intro l1 _ hm
      obtain ⟨k, hk, rfl⟩ := List.getElem_of_mem hx
      exact hno _ hx (hA k hk l1 hm)

theorem nodup_le : ∀ (L l : List Int), l.Nodup → (∀ x ∈ l, x ∈ L) → l.length ≤ L.length
  | [], l, _, h => by
    cases l with
    | nil => simp
    | cons x l => exact absurd (h x (by simp)) (by simp)
  | y :: L, l, hn, h => by
    by_cases hy : y ∈ l
    · have h1 := nodup_le L (l.erase y) (hn.erase y) fun x hx => by
        have hx2 := (List.Nodup.mem_erase_iff hn).1 hx
        rcases List.mem_cons.1 (h x hx2.2) with e | e
        · exact absurd e hx2.1
        · exact e
      have h2 := List.length_erase_of_mem hy
      simp only [List.length_cons]
      omega
    · have h1 := nodup_le L l hn fun x hx => by
        rcases List.mem_cons.1 (h x hx) with e | e
        · exact absurd (e ▸ hx) hy
        · exact e
      simp only [List.length_cons]
      omega

/-- The fixed ones of the law. -/
def FX : List Le := [⟨1, 15, 0⟩, ⟨2, 40, 0⟩]
theorem FX_own {e : He} (h : OwnC FX 10 20 e) : (e.l.m = 1 ∧ e.l.a = 15) ∨ (e.l.m = 2 ∧ e.l.a = 40) ∨ (10 ≤ e.l.a ∧ e.l.a ≤ 20 ∧ e.l.a ≠ 15) := by
  rcases h with ⟨x, hx, h1, h2⟩ | ⟨_, h1, h2, h3⟩
  · unfold FX at hx
    simp only [List.mem_cons, List.not_mem_nil, or_false] at hx
    rcases hx with rfl | rfl
    · exact .inl ⟨h1.symm, h2.symm⟩
    · exact .inr (.inl ⟨h1.symm, h2.symm⟩)
  · have := h3 ⟨1, 15, 0⟩ (by simp [FX])
    simp only at this
    exact .inr (.inr ⟨h1, h2, fun h => this h.symm⟩)
theorem FX_u : ∀ x ∈ FX, ∀ y ∈ FX, x.m = y.m → x = y := by
  intro x hx y hy h
  unfold FX at hx hy
  simp only [List.mem_cons, List.not_mem_nil, or_false] at hx hy
  rcases hx with rfl | rfl <;> rcases hy with rfl | rfl <;> first | rfl | (simp at h)
theorem FX_a : ∀ x ∈ FX, 0 ≤ x.a ∧ x.a ≤ 255 := by
  intro x hx
  unfold FX at hx
  simp only [List.mem_cons, List.not_mem_nil, or_false] at hx
  rcases hx with rfl | rfl <;> simp
theorem len12 {now : Int} {es : List He} (h : Inv FX 10 20 now es) : es.length ≤ 12 := by
  have := nodup_le [10, 11, 12, 13, 14, 15, 16, 17, 18, 19, 20, 40] (es.map fun e => e.l.a) (by
    unfold List.Nodup
    rw [List.pairwise_map]
    exact h.dist) fun x hx => by
    obtain ⟨e, he, rfl⟩ := List.mem_map.1 hx
    rcases FX_own (h.own e he) with ⟨_, k⟩ | ⟨_, k⟩ | ⟨k1, k2, _⟩
    · rw [k]; simp
    · rw [k]; simp
    · simp only [List.mem_cons, List.not_mem_nil, or_false]; omega
  simpa using this
theorem rng12 {now : Int} {es : List He} (h : Inv FX 10 20 now es) : ∀ e ∈ es, 0 ≤ e.l.a ∧ e.l.a ≤ 255 := by
  intro e he
  rcases FX_own (h.own e he) with ⟨_, k⟩ | ⟨_, k⟩ | ⟨k1, k2, _⟩ <;> omega
/-- What is told is as it should be. -/
theorem told_ok {now : Int} {es : List He} (h : Inv FX 10 20 now es) {ls : List Le} (hp : ls.Perm (allL now es)) : (ls.Pairwise fun x y => x.a ≠ y.a ∧ x.m ≠ y.m) ∧ ∀ e ∈ ls, (e.m = 1 ∧ e.a = 15) ∨ (e.m = 2 ∧ e.a = 40) ∨ (10 ≤ e.a ∧ e.a ≤ 20 ∧ e.a ≠ 15) := by
  constructor
  · rw [List.Perm.pairwise_iff (R := fun x y : Le => x.a ≠ y.a ∧ x.m ≠ y.m) (fun h => ⟨h.1.symm, h.2.symm⟩) hp]
    unfold allL
    rw [List.pairwise_map, List.pairwise_filter]
    refine (h.dist.and h.macs).imp fun {x y} k h1 h2 => ⟨k.1, k.2 (of_decide_eq_true h1) (of_decide_eq_true h2)⟩
  · intro e he
    have := hp.mem_iff.1 he
    unfold allL at this
    obtain ⟨x, hx, rfl⟩ := List.mem_map.1 this
    exact FX_own (h.own x (List.mem_filter.1 hx).1)
end Go.Proofs.Ytfkbofbdonmpfaa.Wb
