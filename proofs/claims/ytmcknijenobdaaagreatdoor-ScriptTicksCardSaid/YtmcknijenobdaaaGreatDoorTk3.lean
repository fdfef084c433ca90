/- What the frames that go are written as. -/
import Derived.Test.YtmcknijenobdaaaGreatDoorTk2
set_option linter.unusedSimpArgs false
set_option linter.unusedVariables false
set_option linter.unusedSectionVars false
set_option linter.unnecessarySimpa false
set_option maxRecDepth 100000
namespace Go.Proofs.YtmcknijenobdaaaGreatDoor.Wb
open Go Go.Am Go.Am.Xm

/-- A byte's two digits. -/
def hx : Bs := [48, 49, 50, 51, 52, 53, 54, 55, 56, 57, 97, 98, 99, 100, 101, 102]
def hexB (c : UInt8) : Bs := [hx.getD (c.toNat / 16) 0, hx.getD (c.toNat % 16) 0]
def hexS (l : Bs) : Bs := l.flatMap hexB
theorem hexS_cons (c : UInt8) (l : Bs) : hexS (c :: l) = hexB c ++ hexS l := rfl
theorem hexS_len (l : Bs) : (hexS l).length = 2 * l.length := by
  induction l with
  | nil => rfl
  | cons c l ih => rw [hexS_cons, List.length_append, ih, List.length_cons]; simp [hexB]; omega
theorem hx_at {i : Nat} (h : i < 16) : hx[i]? = some (hx.getD i 0) := by
  rw [List.getD_eq_getElem?_getD]
  have : i < hx.length := h
  rw [List.getElem?_eq_getElem this]; rfl
theorem hx_ix {i : Nat} (h : i < 16) {k : IntKind} {z : Int} (hz : z = i) {κ : V → Prop} : pw.ix (mkX Tryz.prog) 9 (.s [48, 49, 50, 51, 52, 53, 54, 55, 56, 57, 97, 98, 99, 100, 101, 102]) (.i k z) κ = κ (.i .u8 (hx.getD i 0).toNat) := by
  subst hz
  exact ix_s (l := hx) tt9 rfl (hx_at h)
theorem sr_4 {m : Int} {κ : V → Prop} : pw.sr (mkX Tryz.prog) 5 (.i .u8 m) (.i .u64 4) κ = κ (.i .u8 (m / 16)) := sr_k 4 (by decide)
theorem an_15u {m : Int} {κ : V → Prop} : pw.an (mkX Tryz.prog) 5 (.i .u8 m) (.i .u8 15) κ = κ (.i .u8 (m % 16)) := an_mask 4 (by decide) fun z h1 h2 => by rw [wrap_u8', Int.emod_eq_of_lt (by omega) (by omega)]

set_option maxHeartbeats 4000000 in
/-- The inner loop: the bytes' digits, then the line's end; 'rest' is what comes behind. -/
theorem bytes_loop {n : Nat} (hn : 3 ≤ n) {h0 : H} {K : V → H → Prop} {r : Nat} {i11 : V → V → V → V → H → Prop} {bv vl lv iv : V} {l : Bs} (hl : l.length ≤ 2000)
    (pre : Bs) (hp : pre.length ≤ 100000) (k : ∀ h s, Bd h → But h0 h none → Bld h 52 5 r s (pre ++ hexS l) → (∀ z, vblk s = some z → h0.next ≤ z) → F20_39 pw (mkX Tryz.prog) (Ok Tryz.prog n) K i11 (.p r 0) vl lv iv h) (hr : h0.next ≤ r) :
    ∀ (fuel j : Nat) (h : H) (s : V), l.length < fuel + j → j ≤ l.length → Bd h → But h0 h none → BytesAt h0 bv l → (∀ q, vblk bv = some q → q < h0.next) → Bld h 52 5 r s (pre ++ hexS (l.take j)) → (∀ z, vblk s = some z → h0.next ≤ z) →
      F20_49 pw (mkX Tryz.prog) (Ok Tryz.prog n) K i11 fuel (.p r 0) vl lv iv bv (.i .i64 l.length) (.i .i64 j) h := by
  intro fuel
  induction fuel with
  | zero => intro j h s h1 h2; omega
  | succ fuel ih =>
    intro j h s h1 h2 hb f0 hbv hbq b hs
    rw [S20_49]
    by_cases hj : j < l.length
    · simp (disch := omega) only [ws, dec_t]
      unfold F20_58
      have hbv' : BytesAt h bv l := hbv.keep hbq f0 (.inr rfl)
      rw [bytes_get hbv' rfl hj]
      have hc : (l.getD j 0).toNat < 256 := (l.getD j 0).toNat_lt
      simp only [c20]
      rw [sr_4, hx_ix (i := (l.getD j 0).toNat / 16) (by omega) (by omega)]
      try simp only [cf_k]
      have hlen : (pre ++ hexS (l.take j)).length ≤ 200000 := by rw [List.length_append, hexS_len, List.length_take]; omega
      refine wb_ok (c := hx.getD ((l.getD j 0).toNat / 16) 0) hn rfl b (by omega) fun h2 s2 b2 f2 hs2 => ?_
      rw [an_15u, hx_ix (i := (l.getD j 0).toNat % 16) (by omega) (by omega)]
      have f02 : But h0 h2 none := bn2 f0 f2 hr hs
      have hs2' : ∀ z, vblk s2 = some z → h0.next ≤ z := fun z hz => by
        rcases hs2 with e | e
        · exact hs z (e ▸ hz)
        · exact Nat.le_trans f0.1 (e z hz)
      try simp only [cf_k]
      refine wb_ok (c := hx.getD ((l.getD j 0).toNat % 16) 0) hn rfl b2 (by rw [List.length_append, List.length_singleton]; omega) fun h3 s3 b3 f3 hs3 => ?_
      have f03 : But h0 h3 none := bn2 f02 f3 hr hs2'
      unfold F20_66
      simp (disch := omega) only [ws]
      have e1 : (pre ++ hexS (l.take j) ++ [hx.getD ((l.getD j 0).toNat / 16) 0]) ++ [hx.getD ((l.getD j 0).toNat % 16) 0] = pre ++ hexS (l.take (j + 1)) := by
        have : l.take (j + 1) = l.take j ++ [l.getD j 0] := by
          rw [List.take_add_one, List.getD_eq_getElem?_getD, List.getElem?_eq_getElem hj]; rfl
        rw [this]
        simp [hexS, hexB]
      rw [e1] at b3
      rw [show ((j : Int) + 1) = ((j + 1 : Nat) : Int) by omega]
      refine ih (j + 1) h3 s3 (by omega) (by omega) (f3.2.2 (f2.2.2 hb)) f03 hbv hbq b3 fun z hz => ?_
      rcases hs3 with e | e
      · exact hs2' z (e ▸ hz)
      · exact Nat.le_trans f02.1 (e z hz)
    · simp (disch := omega) only [ws, dec_f]
      have : j = l.length := by omega
      subst this
      rw [List.take_length] at b
      exact k h s hb f0 b hs

theorem frames_nil {n : Nat} (hn : 4 ≤ n) {h : H} {K : V → H → Prop} (k : ∀ h', Bd h' → But h h' none → K (.s []) h') : Ok Tryz.prog n 20 [.ns] h K := by
  obtain ⟨n, rfl⟩ := Nat.exists_eq_add_of_le' hn
  refine Ok.bd (K20 fun hbd => ?_)
  unfold F20
  refine al_a tt52 fun r h1 g1 f1 l1 l1' => ?_
  rw [ls_ns tt72 rfl, S20_11]
  simp (disch := omega) only [ws, dec_f]
  unfold F20_4
  try simp only [cf_k]
  refine str_ok (s := .ns) (bs := []) (by omega) ⟨⟨.np, g1, .inl rfl⟩, ⟨rfl, .inl ⟨rfl, rfl⟩⟩, by simp [vblk], by simp [vblk], l1', .inl rfl⟩ (by simp) fun h2 f2 hb2 => ?_
  exact k h2 hb2 (f1.trans (f2 : But h1 h2 none))

set_option maxHeartbeats 4000000 in
theorem frames_one {n : Nat} (hn : 4 ≤ n) {h : H} {K : V → H → Prop} {ro : Nat} {bv : V} {l : Bs} {e : Bool} (hg : h.mem.get ro = some (.c [.i .i64 1, bv] 120 true)) (hro : ro < h.next) (hb0 : BytesAt h bv l) (hl : l.length ≤ 2000)
    (k : ∀ h', Bd h' → But h h' none → K (.s ([119, 97, 110, 32] ++ hexS l ++ [10])) h') : Ok Tryz.prog n 20 [.sl ro 0 1 1 e] h K := by
  obtain ⟨n, rfl⟩ := Nat.exists_eq_add_of_le' hn
  refine Ok.bd (K20 fun hbd => ?_)
  have hbq : ∀ q, vblk bv = some q → q < h.next := hb0.lt hbd
  unfold F20
  refine al_a tt52 fun r h1 g1 f1 l1 l1' => ?_
  rw [ls_sl tt72 rfl, S20_11]
  simp (disch := omega) only [ws, dec_t]
  unfold F20_17
  rw [is_sl (by omega)]
  have hg1 : h1.mem.get ro = some (.c [.i .i64 1, bv] 120 true) := f1.get hro (by simp) hg
  simp only [Int.toNat_zero, Nat.zero_mul, Nat.add_zero]
  rw [ln_w (sz := 2) hg1 rfl]
  refine al_a tt120 fun r5 h2 g2 f2 l2 l2' => ?_
  refine sn_w (cs := [.i .i64 1, bv]) g2 rfl rfl rfl (by show (true && (oneV bv && true)) = true; rw [(bytes_cellsOf hb0).2]; rfl) fun h3 g3 f3 => ?_
  simp (disch := omega) only [ws, Nat.zero_add]
  rw [l1_a g3 rfl]
  simp (disch := omega) only [ws, dec_f]
  have gb3 : h3.mem.get r = some (.c [.np, .ns] 52 true) := f3.get (Nat.lt_of_lt_of_le l1' f2.1) (by intro e; cases e; omega) (f2.get l1' (by simp) g1)
  have b3 : Bld h3 52 5 r .ns [] := ⟨⟨.np, gb3, .inl rfl⟩, ⟨rfl, .inl ⟨rfl, rfl⟩⟩, by simp [vblk], by simp [vblk], Nat.lt_of_lt_of_le l1' (Nat.le_trans f2.1 f3.1), .inl rfl⟩
  have f03 : But h h3 none := bn1 (f1.trans f2) f3 (fun z hz => by cases hz; exact Nat.le_trans f1.1 l2)
  simp only [c20, cf_k]
  refine wr_ok (by omega) b3 (by simp) fun h4 s4 b4 f4 hs4 => ?_
  have f04 : But h h4 none := bn2 f03 f4 l1 (by simp [vblk])
  have hs4' : ∀ z, vblk s4 = some z → h.next ≤ z := fun z hz => by
    rcases hs4 with e | e
    · rw [e] at hz; cases hz
    · exact Nat.le_trans f03.1 (e z hz)
  have g4 : h4.mem.get r5 = some (.c [.i .i64 1, bv] 120 true) := f4.get (Nat.lt_of_lt_of_le l2' f3.1) (by intro e; subst e; omega) (by simp [vblk]) g3
  unfold F20_33
  simp (disch := omega) only [ws, Nat.zero_add]
  rw [l1_a g4 rfl, bytes_len tt50 rfl hb0]
  show F20_49 _ _ _ _ _ _ _ _ _ _ _ _ (.i .i64 ((0 : Nat) : Int)) h4
  refine bytes_loop (h0 := h) (l := l) (by omega) hl [119, 97, 110, 32] (by decide) (fun h5 s5 hb5 f05 b5 hs5 => ?_) l1 100000 0 h4 s4 (by omega) (by omega) (f4.2.2 (f3.2.2 (f2.2.2 (f1.2.2 hbd)))) f04 hb0 hbq (by simpa [hexS] using b4) hs4'
  unfold F20_39
  simp only [c20, cf_k]
  refine wr_ok (by omega) b5 (by rw [List.length_append, hexS_len]; simp; omega) fun h6 s6 b6 f6 hs6 => ?_
  have f06 : But h h6 none := bn2 f05 f6 l1 hs5
  unfold F20_22
  simp (disch := omega) only [ws]
  rw [S20_11]
  simp (disch := omega) only [ws, dec_f]
  unfold F20_4
  try simp only [cf_k]
  refine str_ok (by omega) b6 (by rw [List.length_append, List.length_append, hexS_len]; simp; omega) fun h7 f7 hb7 => ?_
  refine k h7 hb7 (bn1 f06 f7 fun z hz => ?_)
  rcases hs6 with e | e
  · exact hs5 z (e ▸ hz)
  · exact Nat.le_trans f05.1 (e z hz)
end Go.Proofs.YtmcknijenobdaaaGreatDoor.Wb
