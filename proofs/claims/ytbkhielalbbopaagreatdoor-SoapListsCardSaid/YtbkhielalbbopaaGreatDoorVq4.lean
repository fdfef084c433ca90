/- A flow's mapping is made; the first loop. -/
import Derived.Test.YtbkhielalbbopaaGreatDoorVq3
import Derived.Test.YtbkhielalbbopaaGreatDoorUl0
set_option linter.unusedSimpArgs false
set_option linter.unusedVariables false
set_option linter.unusedSectionVars false
set_option linter.unnecessarySimpa false
set_option maxRecDepth 100000
namespace Go.Proofs.YtbkhielalbbopaaGreatDoor.Wb
open Go Go.Am Go.Am.Xm

theorem fnd_no {pr : Mp → Bool} {es : List Mp} (h : ∀ e ∈ es, pr e = false) : fndP pr es 0 < 0 := by
  have h1 := fndP_lo pr es 0
  by_cases h2 : 0 ≤ fndP pr es 0
  · obtain ⟨j, hj, _, e2, _⟩ := fndP_some h2
    rw [h _ (List.getElem_mem hj)] at e2
    cases e2
  · omega

def fF (i : Nat) : Fl := ⟨17, ⟨10, 0, 0, 7⟩, ((50000 + i : Nat) : Int)⟩
theorem half_mem {i : Nat} {e : Mp} (h : e ∈ esN i ++ [uM (200 - i)]) : (∃ p, p ≤ 200 ∧ e = uM p) ∨ ∃ j, j < i ∧ e = aM j := by
  rcases List.mem_append.1 h with h | h
  · obtain ⟨j, hj, h | h⟩ := esN_mem.1 h
    · exact .inl ⟨200 - j, by omega, h⟩
    · exact .inr ⟨j, hj, h⟩
  · rw [List.mem_singleton] at h
    exact .inl ⟨200 - i, by omega, h⟩

theorem mkF_ok {n : Nat} (hn : 6 ≤ n) {i : Nat} (hi : i < 20) {rt : Nat} {c : Option Nat} {h : H} {K : V → H → Prop} (ht : PT h rt c 40000 50 9 (esN i ++ [uM (200 - i)]))
    (k : ∀ h' c' v, Bd h' → But2 h h' rt c → (c' = c ∨ ∃ z, c' = some z ∧ h.next ≤ z) → PT h' rt c' 40000 50 9 (esN (i + 1)) → K v h') : Ok Tryz.prog n 25 [.p rt 0, .a (encF (fF i)), .i .i64 9, .i .i64 60] h K := by
  have tp9 : timeP 9 9 = 9 := by decide
  have hlen : (esN i ++ [uM (200 - i)]).length = 2 * i + 1 := by rw [List.length_append, esN_len]; rfl
  have hfree : freeP 17 ((50000 + i : Nat) : Int) 9 (esN i ++ [uM (200 - i)]) := by
    refine fnd_no fun e he => ?_
    unfold fdE
    rcases half_mem he with ⟨p, hp, rfl⟩ | ⟨j, hj, rfl⟩
    · rw [show decide ((uM p).o = ((50000 + i : Nat) : Int)) = false from decide_eq_false (by show ¬ ((p : Nat) : Int) = _; omega)]; simp
    · rw [show decide ((aM j).o = ((50000 + i : Nat) : Int)) = false from decide_eq_false (by show ¬ ((50000 + j : Nat) : Int) = _; omega)]; simp
  have hcnt : cntL 9 (esN i ++ [uM (200 - i)]) ≤ 2 * i + 1 := by rw [← hlen]; exact List.length_filter_le _ _
  refine make_ok (f := fF i) hn ht (by omega) (by omega) (by rw [tp9]; omega) fun h' c' es' v hbd' f' hc' ht' hp => ?_
  rw [tp9] at ht' hp
  have fin : es' = esN (i + 1) → K v h' := fun e => k h' c' v hbd' f' hc' (by rw [← e]; exact ht')
  have hpo : (fF i).po = ((50000 + i : Nat) : Int) := rfl
  cases hp with
  | arg ha => exact absurd ⟨rfl, by show (1 : Int) ≤ ((50000 + i : Nat) : Int); omega, by rw [hpo]; omega, by omega, by omega⟩ ha
  | out j hj _ ho =>
    have hm := half_mem (List.getElem_mem hj)
    simp only [outE, Bool.and_eq_true, decide_eq_true_eq] at ho
    obtain ⟨_, h1, h2, _⟩ := ho
    rcases hm with ⟨p, hp, e⟩ | ⟨j2, hj2, e⟩
    · rw [e] at h1
      have := congrArg Ad.d h1
      simp [uM, fF] at this
    · rw [e] at h2
      have h3 : ((50000 + j2 : Nat) : Int) = ((50000 + i : Nat) : Int) := h2
      omega
  | full _ _ h3 =>
    rcases h3 with h3 | h3
    · omega
    · exact absurd hfree (h3 _ (by omega) (by omega))
  | new o _ _ _ _ h3 =>
    have ho : o = ((50000 + i : Nat) : Int) := by
      rcases h3 with ⟨_, e⟩ | ⟨e, _⟩
      · exact e
      · exact absurd ⟨by rw [hpo]; omega, hfree⟩ e
    subst ho
    refine fin ?_
    have e1 : (esN i ++ [uM (200 - i)]).filter (fun e => !sameE (newE (fF i) ((50000 + i : Nat) : Int) (9 + 60)) e) = esN i ++ [uM (200 - i)] := by
      rw [List.filter_eq_self]
      intro e he
      simp only [sameE, Bool.not_eq_true', Bool.and_eq_false_iff, decide_eq_false_iff_not]
      refine .inr ?_
      show ¬ e.o = ((50000 + i : Nat) : Int)
      rcases half_mem he with ⟨p, hp, rfl⟩ | ⟨j, hj, rfl⟩
      · show ¬ ((p : Nat) : Int) = _
        omega
      · show ¬ ((50000 + j : Nat) : Int) = _
        omega
    rw [e1]
    rfl

set_option maxHeartbeats 4000000 in
/-- The first loop: so many are put and made. -/
theorem loop1 {n : Nat} (hn : 12 ≤ n) {N : Nat} (hN : N ≤ 20) {K : V → H → Prop} {X : Option B} (k : ∀ (h : H) (rt : Nat) (c : Option Nat) (tn : Int), Bd h → (tn = 0 ∨ tn = 9) → PT h rt c 40000 50 tn (esN N) → (h.mem.get 3 = X ∧ 3 < h.next ∧ rt ≠ 3 ∧ c ≠ some 3) → F7_13 pw (mkX Tryz.prog) (Ok Tryz.prog n) K (.i .i64 N) (.p rt 0) h) :
    ∀ (fuel i : Nat) (h : H) (rt : Nat) (c : Option Nat) (tn : Int), N < fuel + i → i ≤ N → Bd h → (tn = 0 ∨ tn = 9) → PT h rt c 40000 50 tn (esN i) → (h.mem.get 3 = X ∧ 3 < h.next ∧ rt ≠ 3 ∧ c ≠ some 3) → F7_116 pw (mkX Tryz.prog) (Ok Tryz.prog n) K fuel (.i .i64 N) (.p rt 0) (.i .i64 (i : Nat)) h := by
  intro fuel
  induction fuel with
  | zero => intro i h rt c tn a1 a2; omega
  | succ fuel ih =>
  intro i h rt c tn a1 a2 hbd htn ht hX
  rw [S7_116]
  by_cases hlt : i < N
  rotate_left
  · obtain rfl : i = N := by omega
    rw [lt_i, decide_eq_false (show ¬ (i : Int) < (i : Int) by omega), cd_f]
    exact k h rt c tn hbd htn ht hX
  rw [lt_i, decide_eq_true (show (i : Int) < (N : Int) by omega), cd_t]
  unfold F7_120
  rw [show cstW (wL (wL (wL (wR (wL (wL (wR (wL (wR (wR (wR (wR (bdyW Tryz.f7))))))))))))) 4 2 = .s udp by kernel_rfl, show cstW (wL (wL (wL (wR (wL (wL (wR (wL (wR (wR (wR (wR (bdyW Tryz.f7))))))))))))) 4 3 = .s (digs 80) by kernel_rfl, show cstW (wL (wL (wL (wR (wL (wL (wR (wL (wR (wR (wR (wR (bdyW Tryz.f7))))))))))))) 4 4 = .s (adrT 10 0 0 5) by kernel_rfl, show cstW (wL (wL (wL (wR (wL (wL (wR (wL (wR (wR (wR (wR (bdyW Tryz.f7))))))))))))) 4 5 = .s (digs 60) by kernel_rfl]
  rw [sb_64 (by omega), show (200 : Int) - (i : Int) = ((200 - i : Nat) : Int) by omega, cf_k]
  refine Ok.bd (rtext_ok 2 (by omega) (200 - i) (by omega) (by omega) (by omega) fun h1 f1 hbd1 => ?_)
  rw [cf_k]
  refine call_ok (by omega) fun h2 v2 hbd2 f2 hv2 => ?_
  rw [cf_k]
  refine usual_ok (by omega) fun h3 hbd3 f3 => ?_
  have hv3 := hv2.keep (hv2.lt hbd2) f3 (.inr rfl)
  have f03 := (f1.trans f2).trans f3
  rw [cf_k]
  refine doU_ok (by omega) (by omega) htn (ht.keep hbd f03) hv3 fun h4 c4 hbd4 f4 hc4 ht4 => ?_
  simp only [ex_t, List.getElem?_cons_zero, List.getElem?_cons_succ, oP_some]
  rw [ne_i, decide_eq_true rfl]
  simp only [Bool.not_true, cd_f]
  unfold F7_143
  rw [cf_k]
  refine at_ok (by omega) (by omega) fun h5 hbd5 f5 => ?_
  rw [ad_64 (by omega), show (50000 : Int) + (i : Int) = ((50000 + i : Nat) : Int) by omega]
  refine bl_a (v := .a (encF (fF i))) ?_ ?_
  · simp only [blW, ti, tt73, placesSt, encA, cellsOfV, List.getElem?_cons_zero, List.getElem?_cons_succ, fillA]; rfl
  rw [cf_k]
  refine mkF_ok (by omega) (by omega) (ht4.keep hbd4 f5) fun h6 c6 _ hbd6 f6 hc6 ht6 => ?_
  unfold F7_124
  rw [ad_64 (by omega), show (i : Int) + 1 = ((i + 1 : Nat) : Int) by omega]
  obtain ⟨y1, y2, y3, y4⟩ := hX
  have n03 := f03.1
  have n4 := f4.1
  have n5 := f5.1
  have n6 := f6.1
  have c4' : c4 ≠ some 3 := by
    rcases hc4 with e | ⟨z, e, hz⟩
    · rw [e]; exact y4
    · rw [e]; intro e2; have := Option.some.inj e2; omega
  have c6' : c6 ≠ some 3 := by
    rcases hc6 with e | ⟨z, e, hz⟩
    · rw [e]; exact c4'
    · rw [e]; intro e2; have := Option.some.inj e2; omega
  exact ih (i + 1) h6 rt c6 9 (by omega) (by omega) hbd6 (.inr rfl) ht6 ⟨f6.get (by omega) (fun e => y3 e.symm) (fun e => c4' e.symm) (f5.get (by omega) (by simp) (f4.get (by omega) (fun e => y3 e.symm) (fun e => y4 e.symm) (f03.get y2 (by simp) y1))), by omega, y3, c6'⟩
end Go.Proofs.YtbkhielalbbopaaGreatDoor.Wb
