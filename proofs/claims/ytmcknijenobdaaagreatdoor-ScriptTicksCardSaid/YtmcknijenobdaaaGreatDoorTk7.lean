/- The gateway's ticks, told. -/
import Derived.Test.YtmcknijenobdaaaGreatDoorTk3
import Derived.Test.YtmcknijenobdaaaGreatDoorTk6
set_option linter.unusedSimpArgs false
set_option linter.unusedVariables false
set_option linter.unusedSectionVars false
set_option linter.unnecessarySimpa false
set_option maxRecDepth 100000
namespace Go.Proofs.YtmcknijenobdaaaGreatDoor.Wb
open Go Go.Am Go.Am.Xm

/-- What is written of a message that goes. -/
def FS : Bs := [119, 97, 110, 32] ++ hexS FB ++ [10]
def frK (k : Nat) : Bs := bif sendB k then FS else []
/-- What is written of so many ticks. -/
def fru (k : Nat) : Nat → Bs
  | 0 => []
  | m + 1 => fru k m ++ frK (k + m + 1)
theorem fru_add (k a : Nat) : ∀ b, fru k (a + b) = fru k a ++ fru (k + a) b
  | 0 => by simp [fru]
  | b + 1 => by
    rw [← Nat.add_assoc, fru, fru, fru_add k a b, List.append_assoc, Nat.add_assoc k a b]
theorem FB_len : FB.length = 342 := by decide
theorem FS_len : FS.length = 689 := by rw [FS, List.length_append, List.length_append, hexS_len, FB_len]; rfl
theorem frK_len (k : Nat) : (frK k).length ≤ 689 := by
  unfold frK
  cases sendB k with
  | true => simp only [cond_true, FS_len]; omega
  | false => simp
theorem fru_len (k : Nat) : ∀ m, (fru k m).length ≤ 689 * m
  | 0 => by simp [fru]
  | m + 1 => by
    have := fru_len k m
    have := frK_len (k + m + 1)
    rw [fru, List.length_append]
    omega
theorem St_len (k : Nat) : (St k).length = 13 := rfl

theorem tick_ok {k : Nat} (hk : k < 300) {h : H} {q : Nat → Nat} (A : Sit h q (St k)) {K : V → H → Prop}
    (c : ∀ h', Bd h' → Sit h' q (St (k + 1)) → h.next ≤ h'.next → (∀ r, r < h.next → (∀ i, i < 13 → q (16 + i) ≠ r) → h'.mem.get r = h.mem.get r) →
      (sendB (k + 1) = false → K .ns h') ∧ (sendB (k + 1) = true → ∀ ro rb, h.next ≤ ro → ro < h'.next → h'.mem.get ro = some (.c [.i .i64 1, .sl rb 0 342 342 true] 120 true) → h'.mem.get rb = some (.c fbs 5 true) → K (.sl ro 0 1 1 true) h')) :
    Ok Tryz.prog 96 56 [.p (q 16) 0, .i .u32 (k + 1 : Nat)] h K := by
  have hB := tickBA k (by omega)
  unfold tickB at hB
  have := ok_stepR hB A (Gl.nil h) (K := K) fun h' hbd A' hnx hex hkeep => ?_
  · exact this
  obtain ⟨c1, c2⟩ := c h' hbd A' (by omega) fun r hr hno => hkeep r hr fun i hi => hno i hi
  cases hs : sendB (k + 1) with
  | false => exact c1 hs
  | true =>
    rw [hs] at hex hnx
    simp only [if_true, St_len] at hex hnx
    have e1 := hex 171 _ List.mem_cons_self
    have e2 := hex 169 _ (List.mem_cons_of_mem _ List.mem_cons_self)
    have j1 : jN q 29 h.next 171 = h.next + 142 := rfl
    have j2 : jN q 29 h.next 169 = h.next + 140 := rfl
    simp only [rnB, List.map_cons, List.map_nil, rn, j1, j2] at e1 e2
    have e3 : fbs.map (rn (jN q 29 h.next)) = fbs := by unfold fbs; rw [List.map_map]; rfl
    rw [show (16 + 13 : Nat) = 29 from rfl, e3] at e2
    refine c2 hs (h.next + 142) (h.next + 140) (by omega) (by omega) e1 e2

/-- A gateway and who plays it, from 'h0' on. -/
structure Pl (h0 h : H) (q : Nat → Nat) (p k : Nat) : Prop where
  sit : Sit h q (St k)
  new : ∀ i, i < 13 → h0.next ≤ q (16 + i)
  pb : h.mem.get p = some (.c [.p (q 16) 0, .i .u32 k] 48 true)
  pn : h0.next ≤ p
  pl : p < h.next
  ne : ∀ i, i < 13 → q (16 + i) ≠ p
  low : 16 ≤ h0.next
  but : But h0 h none
theorem Pl.keep {h0 h h' : H} {q : Nat → Nat} {p k : Nat} (P : Pl h0 h q p k) {c : Option Nat} (f : But h h' c) (hc : ∀ z, c = some z → h0.next ≤ z ∧ z ≠ p ∧ ∀ i, i < 13 → q (16 + i) ≠ z) : Pl h0 h' q p k :=
  ⟨P.sit.keep f.1 fun i hi => f.2.1 _ (P.sit.lt _ (by rw [St_len] at hi ⊢; omega)) (fun e => (hc _ e.symm).2.2 i hi rfl), P.new, f.get P.pl (fun e => (hc _ e.symm).2.1 rfl) P.pb, P.pn, Nat.lt_of_lt_of_le P.pl f.1, P.ne, P.low, bn1 P.but f fun z hz => (hc z hz).1⟩

set_option maxHeartbeats 8000000 in
theorem ticks_ok {k m : Nat} (hkm : k + m ≤ 300) {h0 h : H} {q : Nat → Nat} {p : Nat} (P : Pl h0 h q p k) {K : V → H → Prop}
    (c : ∀ h', Bd h' → Pl h0 h' q p (k + m) → h.next ≤ h'.next → (∀ r, r < h.next → r ≠ p → (∀ i, i < 13 → q (16 + i) ≠ r) → h'.mem.get r = h.mem.get r) → K (.s (fru k m)) h') : Ok Tryz.prog 97 22 [.p p 0, .i .i64 m] h K := by
  refine Ok.bd (K22 fun hbd => ?_)
  unfold F22
  have key : ∀ (fuel i : Nat) (h1 : H), m < fuel + i → i ≤ m → Bd h1 → Pl h0 h1 q p (k + i) → h.next ≤ h1.next → (∀ r, r < h.next → r ≠ p → (∀ i, i < 13 → q (16 + i) ≠ r) → h1.mem.get r = h.mem.get r) →
      F22_11 pw (mkX Tryz.prog) (Ok Tryz.prog 96) (fun v h' => Bd h' → K v h') fuel (.p p 0) (.s (fru k i)) (.i .i64 m) (.i .i64 i) h1 := by
    intro fuel
    induction fuel with
    | zero => intro i h1 h2 h3; omega
    | succ fuel ih =>
      intro i h1 h2 h3 hb P hn hf
      rw [S22_11]
      by_cases hi : i < m
      · simp (disch := omega) only [ws, dec_t]
        unfold F22_17
        try simp (disch := omega) only [ws, Nat.zero_add]
        rw [l1_a P.pb rfl]
        try simp (disch := omega) only [ws, Nat.zero_add]
        refine s1_a P.pb (by simp) rfl fun h2' g2 f2 => ?_
        try simp (disch := omega) only [ws, Nat.zero_add]
        have g2' : h2'.mem.get p = some (.c [.p (q 16) 0, .i .u32 (k + i + 1 : Nat)] 48 true) := by
          rw [g2]
          simp
        rw [l1_a g2' rfl, l1_a g2' rfl]
        have A2 : Sit h2' q (St (k + i)) := P.sit.keep f2.1 fun j hj => f2.2.1 _ (P.sit.lt _ (by rw [St_len] at hj ⊢; omega)) (fun e => P.ne j hj (by cases e; rfl))
        have hb2 : Bd h2' := f2.2.2 hb
        refine tick_ok (k := k + i) (by omega) A2 fun h3' hb3 A3 hn3 hk3 => ?_
        have g3 : h3'.mem.get p = some (.c [.p (q 16) 0, .i .u32 (k + i + 1 : Nat)] 48 true) := by
          rw [hk3 p (Nat.lt_of_lt_of_le P.pl f2.1) P.ne]; exact g2'
        have P3 : Pl h0 h3' q p (k + (i + 1)) := by
          refine ⟨A3, P.new, g3, P.pn, Nat.lt_of_lt_of_le P.pl (Nat.le_trans f2.1 hn3), P.ne, P.low, ⟨Nat.le_trans P.but.1 (Nat.le_trans f2.1 hn3), fun r hr _ => ?_, fun _ => hb3⟩⟩
          have hr1 : r < h1.next := Nat.lt_of_lt_of_le hr P.but.1
          rw [hk3 r (Nat.lt_of_lt_of_le hr1 f2.1) (fun j hj e => by have := P.new j hj; omega), f2.2.1 r hr1 (fun e => by cases e; have := P.pn; omega)]
          exact P.but.2.1 r hr (by simp)
        have hf3 : ∀ r, r < h.next → r ≠ p → (∀ i, i < 13 → q (16 + i) ≠ r) → h3'.mem.get r = h.mem.get r := fun r hr hrp hrq => by
          have hr1 : r < h1.next := Nat.lt_of_lt_of_le hr hn
          rw [hk3 r (Nat.lt_of_lt_of_le hr1 f2.1) hrq, f2.2.1 r hr1 (fun e => hrp (by cases e; rfl))]
          exact hf r hr hrp hrq
        have hn4 : h.next ≤ h3'.next := Nat.le_trans hn (Nat.le_trans f2.1 hn3)
        have l1 := fru_len k i
        have fin : ∀ h4 : H, Bd h4 → But h3' h4 none → pw.ad (mkX Tryz.prog) 9 (.s (fru k i)) (.s (frK (k + i + 1))) (fun v48 => F22_22 pw (mkX Tryz.prog) (Ok Tryz.prog 96) (fun v h' => Bd h' → K v h') (F22_11 pw (mkX Tryz.prog) (Ok Tryz.prog 96) (fun v h' => Bd h' → K v h') fuel) (.p p 0) v48 (.i .i64 m) (.i .i64 i) h4) := by
          intro h4 hb4 f4
          have l2 := frK_len (k + i + 1)
          rw [ad_s (by omega)]
          unfold F22_22
          simp (disch := omega) only [ws]
          rw [show ((i : Int) + 1) = ((i + 1 : Nat) : Int) by omega]
          exact ih (i + 1) h4 (by omega) (by omega) hb4 (P3.keep f4 (by simp)) (Nat.le_trans hn4 f4.1) fun r hr hrp hrq => by
            rw [f4.2.1 r (Nat.lt_of_lt_of_le hr hn4) (by simp)]; exact hf3 r hr hrp hrq
        refine ⟨fun hs => ?_, fun hs ro rb hro hro' gro grb => ?_⟩
        · refine frames_nil (by omega) fun h4 hb4 f4 => ?_
          have := fin h4 hb4 f4
          unfold frK at this
          rw [hs] at this
          exact this
        · have hby : BytesAt h3' (.sl rb 0 342 342 true) FB := Vec.bytes (el := 5) (n := 342) ⟨by rw [u8s_len, FB_len], .inr ⟨rb, 342, true, fbs, rfl, grb, by omega, by unfold fbs; rw [List.length_map, FB_len], by
            rw [List.take_of_length_le (by unfold fbs; rw [List.length_map, FB_len]; omega)]; rfl⟩⟩
          refine frames_one (by omega) gro hro' hby (by rw [FB_len]; omega) fun h4 hb4 f4 => ?_
          have := fin h4 hb4 f4
          unfold frK at this
          rw [hs] at this
          exact this
      · simp (disch := omega) only [ws, dec_f]
        unfold F22_5
        have : i = m := by omega
        subst this
        exact fun hb' => c h1 hb' P hn hf
  exact key 100000 0 h (by omega) (by omega) hbd P (Nat.le_refl _) fun _ _ _ _ => rfl
end Go.Proofs.YtmcknijenobdaaaGreatDoor.Wb
