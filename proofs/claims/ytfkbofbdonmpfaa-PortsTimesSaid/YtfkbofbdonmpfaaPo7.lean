/- A mapping is there for just its time: the walk. -/
import Derived.Test.YtfkbofbdonmpfaaPo6
import Derived.Test.YtfkbofbdonmpfaaM3
set_option linter.unusedSimpArgs false
set_option linter.unusedVariables false
set_option linter.unusedSectionVars false
set_option linter.unnecessarySimpa false
set_option maxRecDepth 100000
namespace Go.Proofs.Ytfkbofbdonmpfaa.Wb
open Go.Am

theorem _root_.Go.Am.NumsAt.keep2 {h h' : H} {q : IntKind} {v : V} {zs : List Int} {r : Nat} {b : Option Nat} (hb : NumsAt h q v zs) (hd : ∀ q, vblk v = some q → q < h.next) (hk : But2 h h' r b) (hr : ∀ q, vblk v = some q → q ≠ r) (hq : ∀ q, vblk v = some q → b ≠ some q) : NumsAt h' q v zs := by
  cases v with
  | sl p o n c e =>
    obtain ⟨h1, h1', l, t, w, h2, h3⟩ := hb
    exact ⟨h1, h1', l, t, w, hk.get (hd _ rfl) (hr _ rfl) (fun e => hq _ rfl e.symm) h2, h3⟩
  | _ => exact hb

def tF : Fl := ⟨17, ⟨10, 0, 0, 1⟩, 50000⟩
def tE (u : Int) : Mp := ⟨17, 50000, ⟨10, 0, 0, 1⟩, 50000, 1, u⟩
theorem tE_out {T u : Int} (h : T < u) : outE tF T (tE u) = true := by
  simp [outE, tF, tE, lvE, h]
theorem tF_ok {secs : Int} (h : 1 ≤ secs ∧ secs ≤ 1000) : okA tF secs := ⟨rfl, by decide, by decide, h.1, by omega⟩

set_option maxHeartbeats 2000000 in
theorem times_ok (aw : (sem (mkX Try.prog) 100000 99 23 [] ⟨17, .l⟩).map (·.1) = some (.b true)) {secs now : Int} {u : V} {zs : List Int} {h : H} (hh : h.next = 17) (hz : NumsAt h .i64 u zs) (hzs : ∀ z ∈ zs, -9223372036854775808 ≤ z ∧ z ≤ 9223372036854775807) : Ok Try.prog 100 4 [.i .i64 secs, u, .i .i64 now] h (fun v _ => v = .b true) := by
  refine K4 (n := 99) fun hbd => ?_
  simp (disch := omega) only [F4, cf_k]
  refine ok_true' aw hh fun h1 hbd1 hb1 => ?_
  have hz1 := hz.keep (hz.lt hbd) hb1 (.inr rfl)
  simp (disch := omega) only [ws, Bool.not_true, F4_5]
  by_cases c1 : secs < 1
  · simp (disch := omega) only [ws, dec_t c1]
  by_cases c2 : 1000 < secs
  · simp (disch := omega) only [ws, dec_f c1, dec_t c2]
  simp (disch := omega) only [ws, dec_f c1, dec_f c2, nums_len tt38 rfl hz1]
  by_cases c3 : (20 : Int) < zs.length
  · simp (disch := omega) only [ws, dec_t c3]
  by_cases c4 : now < 0
  · simp (disch := omega) only [ws, dec_f c3, dec_t c4]
  by_cases c5 : 3000 < now
  · simp (disch := omega) only [ws, dec_f c3, dec_f c4, dec_t c5]
  simp (disch := omega) only [ws, dec_f c3, dec_f c4, dec_f c5, F4_9]
  refine new_ok (by omega) (by omega) (by omega) fun r h2 hbd2 hb2 hr2 ht2 => ?_
  simp (disch := omega) only [ws, List.getElem?_cons_zero, List.getElem?_cons_succ]
  refine at_ok (by omega) (by omega) fun h3 hbd3 hb3 => ?_
  refine bl_a (v := .a (encF tF)) ?_ ?_
  · simp only [blW, ti, tt35, placesSt, encA, cellsOfV, List.getElem?_cons_zero, List.getElem?_cons_succ, fillA]; rfl
  refine al_a tt35 fun fb h4 hf4 hb4 hf1 hf2 => ?_
  refine sn_w (w := .a (encF tF)) (cs := encF tF) hf4 rfl rfl rfl rfl fun h5 hf5 hb5 => ?_
  rw [ln_w (sz := 6) hf5 rfl]
  have hb25 : But h2 h5 none := (hb3.trans hb4).over hb5 (.inr fun z e => by cases e; exact Nat.le_trans hb3.1 hf1)
  have hbd5 := hb25.2.2 hbd2
  have ht5 := ht2.keep hbd2 hb25
  have hb15 := hb2.trans hb25
  have hz5 := hz1.keep (hz1.lt hbd1) hb15 (.inr rfl)
  have hu : ∀ q, vblk u = some q → q < h1.next := hz1.lt hbd1
  have hfr : r ≠ fb := Nat.ne_of_lt (Nat.lt_of_lt_of_le (ht2.lt hbd2).1 (Nat.le_trans hb3.1 hf1))
  have hfl : fb < h5.next := Nat.lt_of_lt_of_le hf2 hb5.1
  have hfu : ∀ q, vblk u = some q → q ≠ r := fun q hq => by have := hu q hq; omega
  have t0 : timeP 0 0 = 0 := rfl
  refine make_ok (by omega) ht5 (by simp) (by omega) (by rw [t0]; omega) fun h6 c6 es6 v6 hbd6 hb6 hc6 ht6 hm6 => ?_
  rw [t0] at ht6 hm6
  have hes6 : es6 = [tE (0 + secs)] := by
    cases hm6 with
    | arg h => exact absurd (tF_ok (by omega)) h
    | out j h => simp at h
    | full _ _ h =>
      rcases h with h | h
      · simp [cntL] at h
      · exact absurd (show freeP tF.p 50000 0 [] from (by decide : (-1 : Int) < 0)) (h 50000 (by omega) (by omega))
    | new o _ _ _ _ h =>
      rcases h with ⟨_, rfl⟩ | ⟨h, _⟩
      · rfl
      · exact absurd ⟨by decide, (by decide : (-1 : Int) < 0)⟩ h
  subst hes6
  have hz6 : NumsAt h6 .i64 u zs := hz5.keep2 (fun q hq => Nat.lt_of_lt_of_le (hu q hq) hb15.1) hb6 (fun q hq => hfu q hq) (fun q hq => by simp)
  have hf6 := hb6.get hfl (Ne.symm hfr) (by simp) hf5
  have loop : ∀ (fuel k : Nat) (last : Int) (h7 : H) (c7 : Option Nat), zs.length < fuel + k → k ≤ zs.length → 0 ≤ last → last ≤ 1000 * (k : Int) → Bd h7 → PT h7 r c7 40000 9 last [tE (last + secs)] → h7.mem.get fb = some (.c (encF tF) 35 true) → c7 ≠ some fb → NumsAt h7 .i64 u zs → (∀ q, vblk u = some q → q < h7.next ∧ c7 ≠ some q) →
      F4_51 pw xx (Ok Try.prog 99) (fun v _ => v = .b true) fuel (.i .i64 secs) u (.i .i64 now) (.p r 0) (.p fb 0) (.i .i64 last) (.i .i64 (k : Nat)) h7 := by
    intro fuel
    induction fuel with
    | zero => intro k last h7 c7 a1 a2; omega
    | succ fuel ih =>
      intro k last h7 c7 a1 a2 a3 a4 hbd7 ht7 hf7 hcf hz7 hcu
      rw [S4_51, nums_len tt38 rfl hz7]
      by_cases hlt : k < zs.length
      · simp (disch := omega) only [ws, dec_t, F4_59]
        rw [nums_get hz7 (i := k) rfl hlt]
        have hzk : -9223372036854775808 ≤ zs.getD k 0 ∧ zs.getD k 0 ≤ 9223372036854775807 := by
          rw [List.getD_eq_getElem?_getD, List.getElem?_eq_getElem hlt]
          exact hzs _ (List.getElem_mem hlt)
        generalize hzv : zs.getD k 0 = z at hzk ⊢
        by_cases b1 : z < 0
        · simp (disch := omega) only [ws, dec_t b1]
        simp (disch := omega) only [ws, dec_f b1]
        rw [nums_get hz7 (i := k) rfl hlt, hzv]
        by_cases b2 : secs ≤ z
        · simp (disch := omega) only [ws, dec_t b2]
        simp (disch := omega) only [ws, dec_f b2, F4_78]
        rw [nums_get hz7 (i := k) rfl hlt, hzv]
        simp (disch := omega) only [ws]
        rw [ln_w (sz := 6) hf7 rfl]
        have hT : timeP last (last + z) = last + z := by
          unfold timeP; split <;> omega
        refine make_ok (by omega) ht7 (by simp) (by omega) (by rw [hT]; omega) fun h8 c8 es8 v8 hbd8 hb8 hc8 ht8 hm8 => ?_
        rw [hT] at ht8 hm8
        have hout := tE_out (T := last + z) (u := last + secs) (by omega)
        have hes8 : es8 = [tE (last + z + secs)] ∧ v8 = .t [.a (encM (tE (last + z + secs))), .i .i64 0] := by
          cases hm8 with
          | arg h => exact absurd (tF_ok (by omega)) h
          | out j h => 
            obtain rfl : j = 0 := by simpa using h
            exact ⟨rfl, rfl⟩
          | full _ h _ => rw [h _ (List.mem_singleton.2 rfl)] at hout; cases hout
          | new o _ h _ _ _ => rw [h _ (List.mem_singleton.2 rfl)] at hout; cases hout
        obtain ⟨rfl, rfl⟩ := hes8
        simp (disch := omega) only [ws, List.getElem?_cons_zero, List.getElem?_cons_succ]
        refine al_a tt30 fun q h9 hq9 hb9 hq1 hq2 => ?_
        refine sn_w (w := .a (encM (tE (last + z + secs)))) (cs := encM (tE (last + z + secs))) hq9 rfl (encM_len _) rfl (encM_one _) fun h10 hq10 hb10 => ?_
        have l1 : ∀ κ : V → Prop, pw.l1 (.p q (0 + 1)) h10 κ = κ (.i .i64 50000) := fun κ => l1_a hq10 rfl
        have l8 : ∀ κ : V → Prop, pw.l1 (.p q (0 + 8)) h10 κ = κ (.i .i64 (last + z + secs)) := fun κ => l1_a hq10 rfl
        simp (disch := omega) only [ws, l1, l8, dec_t, decide_true, Bool.not_true, F4_67]
        have hb8t : But h8 h10 none := hb9.over hb10 (.inr fun z e => by cases e; exact hq1)
        have hbd10 := hb8t.2.2 hbd8
        have hf8 := hb8.get (hbd7 _ _ hf7) (Ne.symm hfr) (fun e => hcf e.symm) hf7
        have hz8 : NumsAt h8 .i64 u zs := hz7.keep2 (fun q hq => (hcu q hq).1) hb8 hfu (fun q hq => (hcu q hq).2)
        refine ih (k + 1) (last + z) h10 c8 (by omega) (by omega) (by omega) (by omega) hbd10 (ht8.keep hbd8 hb8t) (hb8t.get (hbd8 _ _ hf8) (by simp) hf8) ?_ (hz8.keep (hz8.lt hbd8) hb8t (.inr rfl)) fun q hq => ⟨Nat.lt_of_lt_of_le (hcu q hq).1 (Nat.le_trans hb8.1 hb8t.1), ?_⟩
        · rcases hc8 with h | ⟨z, h, hz⟩
          · rw [h]; exact hcf
          · rw [h]; intro e; cases e; have := hbd7 _ _ hf7; omega
        · rcases hc8 with h | ⟨z, h, hz⟩
          · rw [h]; exact (hcu q hq).2
          · rw [h]; intro e; cases e; have := (hcu q hq).1; omega
      · simp (disch := omega) only [ws, dec_f, F4_28]
        have hT : timeP last (last + now) = last + now := by
          unfold timeP; split <;> omega
        have fin : ∀ (h8 : H) (m : Mp) (b : Bool), b = decide (now < secs) → pw.ex 0 (.t [.a (encM m), .b b]) fun v39 => pw.ex 1 (.t [.a (encM m), .b b]) fun v40 => pw.al xx 30 h8 fun v41 h41 => pw.sn 9 v41 v39 h41 fun h42 => pw.lt xx 2 (.i .i64 now) (.i .i64 secs) fun v47 => pw.eq xx 4 v40 v47 fun v48 => v48 = .b true := by
          intro h8 m b hb
          simp (disch := omega) only [ws, List.getElem?_cons_zero, List.getElem?_cons_succ]
          refine al_a tt30 fun q h9 hq9 hb9 hq1 hq2 => ?_
          refine sn_w (w := .a (encM m)) (cs := encM m) hq9 rfl (encM_len _) rfl (encM_one _) fun h10 hq10 hb10 => ?_
          simp (disch := omega) only [ws, eq_b tt4 rfl rfl rfl, hb, beq_self_eq_true]
        refine in_ok (by omega) ht7 (by simp) (fun h8 hbd8 hb8 ht8 hf => ?_) fun h8 j hbd8 hb8 ht8 hj hj1 hj2 => ?_
        · rw [hT] at hf
          refine fin h8 m0 false ?_
          symm
          rw [decide_eq_false_iff_not]
          intro hlt2
          have := fndP_neg hf _ (List.mem_singleton.2 rfl)
          simp [fdE, tE, lvE] at this
          omega
        · rw [hT] at hj2
          refine fin h8 _ true ?_
          obtain rfl : j = 0 := by simpa using hj
          simp [fdE, tE, lvE] at hj2
          symm
          rw [decide_eq_true_iff]
          omega
  have hc6f : c6 ≠ some fb := by
    rcases hc6 with h | ⟨z, h, hz⟩
    · rw [h]; simp
    · rw [h]; intro e; cases e; omega
  rw [Int.zero_add] at ht6
  refine loop 100000 0 0 h6 c6 (by omega) (by omega) (by omega) (by omega) hbd6 (by rw [Int.zero_add]; exact ht6) hf6 hc6f hz6 fun q hq => ⟨Nat.lt_of_lt_of_le (hu q hq) (Nat.le_trans hb15.1 hb6.1), ?_⟩
  rcases hc6 with h | ⟨z, h, hz⟩
  · rw [h]; simp
  · rw [h]; intro e; cases e; have := hu q hq; have := hb15.1; omega
end Go.Proofs.Ytfkbofbdonmpfaa.Wb
