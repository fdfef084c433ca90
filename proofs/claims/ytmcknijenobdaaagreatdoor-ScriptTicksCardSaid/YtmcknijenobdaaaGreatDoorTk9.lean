/- So many ticks told at once, or in two parts. -/
import Derived.Test.YtmcknijenobdaaaGreatDoorTk8
set_option linter.unusedSimpArgs false
set_option linter.unusedVariables false
set_option linter.unusedSectionVars false
set_option linter.unnecessarySimpa false
set_option maxRecDepth 100000
namespace Go.Proofs.YtmcknijenobdaaaGreatDoor.Wb
open Go Go.Am Go.Am.Xm

theorem text_ok {n : Nat} (hn : n ≤ 300) {h : H} (h16 : 16 ≤ h.next) {K : V → H → Prop} (c : ∀ h', Bd h' → But h h' none → K (.s (dgN n)) h') : Ok Tryz.prog 99 7 [.i .i64 n] h K := by
  have hB := textBA n hn
  unfold textB at hB
  have := ok_stepR hB (Sit.nil h h16) (Gl.nil h) (K := K) fun h' hbd A' hnx hex hkeep => c h' hbd ⟨by omega, fun r hr _ => hkeep r hr (fun i hi => by simp at hi), fun _ => hbd⟩
  exact this
theorem usual_ok {h : H} (h16 : 16 ≤ h.next) {K : V → H → Prop} (c : ∀ h', Bd h' → But h h' none → K (.a CF) h') : Ok Tryz.prog 99 6 [] h K := by
  have hB := usuR
  unfold usuB at hB
  have := ok_stepR hB (Sit.nil h h16) (Gl.nil h) (K := K) fun h' hbd A' hnx hex hkeep => ?_
  · exact this
  have e : rn (jN (fun r => r) (16 + ([] : List B).length) h.next) (.a CF) = .a CF := rfl
  rw [e]
  exact c h' hbd ⟨by omega, fun r hr _ => hkeep r hr (fun i hi => by simp at hi), fun _ => hbd⟩

set_option maxHeartbeats 8000000 in
theorem ticks_law {h : H} (h16 : 16 ≤ h.next) (hbd : Bd h) (G : Gl h G10) (a b : Int) {K : V → H → Prop} (aw : ∀ {K : V → H → Prop}, (∀ h', Bd h' → But h h' none → K (.b true) h') → Ok Tryz.prog 99 4 [] h K)
    (c : ∀ h', K (.b true) h') : Ok Tryz.prog 100 3 [.i .i64 a, .i .i64 b] h K := by
  refine Ok.bd (K3 fun hbd => ?_)
  unfold F3
  simp only [cf_k]
  refine aw fun h1 hb1 f1 => ?_
  try simp (disch := omega) only [ws]
  simp only [Bool.not_true, cd_f]
  unfold F3_4
  by_cases ha : a < 0
  · simp (disch := omega) only [ws, dec_t, cd_t]
    exact fun _ => c _
  by_cases ha2 : 300 < a
  · simp (disch := omega) only [ws, dec_t, dec_f, cd_t]
    exact fun _ => c _
  by_cases hb : b < 0
  · simp (disch := omega) only [ws, dec_t, dec_f, cd_t]
    exact fun _ => c _
  by_cases hb2 : a < b
  · simp (disch := omega) only [ws, dec_t, dec_f, cd_t]
    exact fun _ => c _
  try simp (disch := omega) only [ws, dec_t, dec_f, cd_f]
  obtain ⟨n, rfl⟩ := Int.eq_ofNat_of_zero_le (show 0 ≤ a by omega)
  obtain ⟨k, rfl⟩ := Int.eq_ofNat_of_zero_le (show 0 ≤ b by omega)
  have hn : n ≤ 300 := by omega
  have hk : k ≤ n := by omega
  unfold F3_7
  simp only [c3, cf_k]
  refine usual_ok (Nat.le_trans h16 f1.1) fun h2 hb2 f2 => ?_
  refine text_ok hn (Nat.le_trans h16 (Nat.le_trans f1.1 f2.1)) fun h3 hb3 f3 => ?_
  have l1 := dg_le n
  have l2 := dg_le k
  have l3 := dg_le (n - k)
  rw [ad_s (by simp; omega), ad_s (by simp; omega)]
  have g3 : Gl h3 G10 := ((G.keep fun r hr => f1.2.1 r (by omega) (by simp)).keep fun r hr => f2.2.1 r (by have := f1.1; omega) (by simp)).keep fun r hr => f3.2.1 r (by have := f1.1; have := f2.1; omega) (by simp)
  have e1 : ([116, 105, 99, 107, 32] : Bs) ++ dgN n ++ [10, 110, 111, 119] = joinB 10 ([some n, none].map rowL) := by
    simp [joinB, rowL, wordsL, tickW, nowW]
  rw [e1]
  refine run_ok (L := [some n, none]) (by simp) ?_ (by simp) ?_ (Nat.le_trans h16 (Nat.le_trans f1.1 (Nat.le_trans f2.1 f3.1))) g3 fun h4 hb4 f4 => ?_
  · intro l hl m e
    simp only [List.mem_cons, List.not_mem_nil, or_false] at hl
    rcases hl with rfl | rfl
    · cases e; exact hn
    · cases e
  · intro A B e
    match A, B, e with
    | [], _, _ => simp [endL]
    | [x], _, e => simp only [List.cons_append, List.cons.injEq] at e; rw [← e.1]; simp [endL, kL]; omega
    | [x, y], _, e => simp only [List.cons_append, List.cons.injEq] at e; rw [← e.1, ← e.2.1]; simp [endL, kL]; omega
    | x :: y :: z :: A, _, e => simp at e
  simp only [ex_t, List.getElem?_cons_zero, List.getElem?_cons_succ, oP_some]
  refine usual_ok (Nat.le_trans h16 (Nat.le_trans f1.1 (Nat.le_trans f2.1 (Nat.le_trans f3.1 f4.1)))) fun h5 hb5 f5 => ?_
  have f05 : But h h5 none := (((f1.trans f2).trans f3).trans f4).trans f5
  refine text_ok (show k ≤ 300 by omega) (Nat.le_trans h16 f05.1) fun h6 hb6 f6 => ?_
  rw [ad_s (by simp; omega), ad_s (by simp; omega)]
  try simp (disch := omega) only [ws]
  rw [show ((n : Int) - (k : Int)) = ((n - k : Nat) : Int) by omega]
  refine text_ok (show n - k ≤ 300 by omega) (Nat.le_trans h16 (f05.trans f6).1) fun h7 hb7 f7 => ?_
  rw [ad_s (by simp; omega), ad_s (by simp; omega)]
  have f07 : But h h7 none := (f05.trans f6).trans f7
  have g7 : Gl h7 G10 := G.keep fun r hr => f07.2.1 r (by omega) (by simp)
  have e2 : ([116, 105, 99, 107, 32] : Bs) ++ dgN k ++ [10, 116, 105, 99, 107, 32] ++ dgN (n - k) ++ [10, 110, 111, 119] = joinB 10 ([some k, some (n - k), none].map rowL) := by
    simp [joinB, rowL, wordsL, tickW, nowW]
  rw [e2]
  refine run_ok (L := [some k, some (n - k), none]) (by simp) ?_ (by simp) ?_ (Nat.le_trans h16 f07.1) g7 fun h8 hb8 f8 => ?_
  · intro l hl m e
    simp only [List.mem_cons, List.not_mem_nil, or_false] at hl
    rcases hl with rfl | rfl | rfl
    · cases e; omega
    · cases e; omega
    · cases e
  · intro A B e
    match A, B, e with
    | [], _, _ => simp [endL]
    | [x], _, e => simp only [List.cons_append, List.cons.injEq] at e; rw [← e.1]; simp [endL, kL]; omega
    | [x, y], _, e => simp only [List.cons_append, List.cons.injEq] at e; rw [← e.1, ← e.2.1]; simp [endL, kL]; omega
    | [x, y, z], _, e => simp only [List.cons_append, List.cons.injEq] at e; rw [← e.1, ← e.2.1, ← e.2.2.1]; simp [endL, kL]; omega
    | x :: y :: z :: w :: A, _, e => simp at e
  simp only [ex_t, List.getElem?_cons_zero, List.getElem?_cons_succ, oP_some]
  have e3 : outL 0 [some n, none] = outL 0 [some k, some (n - k), none] := by
    have := fru_add 0 k (n - k)
    rw [show k + (n - k) = n by omega, Nat.zero_add] at this
    simp only [outL, tL, kL, Nat.zero_add, List.append_nil]
    rw [show k + (n - k) = n by omega, this, List.append_assoc]
  rw [e3]
  try simp (disch := omega) only [ws, dec_t, eq_s, beq_self_eq_true]
  simp (disch := omega) only [decide_true, g1_t, pk_t, ws, eq_s, beq_self_eq_true]
  exact fun _ => c _
end Go.Proofs.YtmcknijenobdaaaGreatDoor.Wb
