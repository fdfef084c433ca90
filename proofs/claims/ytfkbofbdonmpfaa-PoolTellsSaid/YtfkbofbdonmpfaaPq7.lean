/- Each lease that is over is told once: the walk. -/
import Derived.Test.YtfkbofbdonmpfaaPq6
import Derived.Test.YtfkbofbdonmpfaaM3
set_option linter.unusedSimpArgs false
set_option linter.unusedVariables false
set_option linter.unusedSectionVars false
set_option linter.unnecessarySimpa false
set_option maxRecDepth 100000
namespace Go.Proofs.Ytfkbofbdonmpfaa.Wb
open Go.Am

theorem _root_.Go.Am.NumsAt.keep2 {h h' : H} {q : IntKind} {v : V} {zs : List Int} {r : Nat} {b : Option Nat} (hb : NumsAt h q v zs) (hd : ∀ q, vblk v = some q → q < h.next ∧ q ≠ r ∧ b ≠ some q) (hk : But2 h h' r b) : NumsAt h' q v zs := by
  cases v with
  | sl p o n c e =>
    obtain ⟨h1, h1', l, t, w, h2, h3⟩ := hb
    obtain ⟨a1, a2, a3⟩ := hd _ rfl
    exact ⟨h1, h1', l, t, w, hk.get a1 a2 (fun e => a3 e.symm) h2, h3⟩
  | _ => exact hb
theorem vece_keep2 {α : Type} {h h' : H} {v : V} {el sz : Nat} {enc : α → List V} {es : List α} {r : Nat} {b : Option Nat} (hv : VecE h v el sz enc es) (hd : ∀ q, vblk v = some q → q < h.next ∧ q ≠ r ∧ b ≠ some q) (hk : But2 h h' r b) : VecE h' v el sz enc es := by
  obtain ⟨h0, hv⟩ := hv
  refine ⟨h0, ?_⟩
  rcases hv with h | ⟨q, cap, e, l, rfl, h2, h3⟩
  · exact .inl h
  · obtain ⟨a1, a2, a3⟩ := hd _ rfl
    exact .inr ⟨q, cap, e, l, rfl, hk.get a1 a2 (fun e => a3 e.symm) h2, h3⟩

def heE (zs : List Int) (i : Nat) : He := ⟨⟨i, 100 + i, zs.getD i 0⟩, false⟩
def lis (zs : List Int) (k : Nat) : List He := (List.range k).map (heE zs)
def cntO (now : Int) (zs : List Int) (k : Nat) : Nat := ((List.range k).filter fun i => decide (zs.getD i 0 ≤ now)).length
theorem lis_len (zs : List Int) (k : Nat) : (lis zs k).length = k := by simp [lis]
theorem lis_mem {zs : List Int} {k : Nat} {e : He} (h : e ∈ lis zs k) : ∃ i, i < k ∧ e = heE zs i := by
  unfold lis at h
  obtain ⟨i, hi, rfl⟩ := List.mem_map.1 h
  exact ⟨i, List.mem_range.1 hi, rfl⟩
theorem lis_pw (zs : List Int) (k : Nat) : (lis zs k).Pairwise fun x y => x.l.a < y.l.a := by
  unfold lis
  rw [List.pairwise_map]
  refine List.pairwise_lt_range.imp fun {a b} h => ?_
  simp only [heE]; omega
theorem cntO_le (now : Int) (zs : List Int) (k : Nat) : cntO now zs k ≤ k := by
  refine Nat.le_trans (List.length_filter_le _ _) ?_
  simp
theorem cntO_succ (now : Int) (zs : List Int) (k : Nat) : cntO now zs (k + 1) = cntO now zs k + if zs.getD k 0 ≤ now then 1 else 0 := by
  unfold cntO
  rw [List.range_succ, List.filter_append, List.length_append]
  by_cases c : zs.getD k 0 ≤ now
  · rw [if_pos c, List.filter_cons_of_pos (p := fun i => decide (zs.getD i 0 ≤ now)) (decide_eq_true c)]; rfl
  · rw [if_neg c, List.filter_cons_of_neg (p := fun i => decide (zs.getD i 0 ≤ now)) (by show ¬ decide (zs.getD k 0 ≤ now) = true; rw [decide_eq_false c]; simp)]; rfl
theorem tick_len (now : Int) (zs : List Int) (k : Nat) : (tickL now (lis zs k)).length = cntO now zs k := by
  unfold tickL lis cntO
  rw [List.length_map, List.filter_map, List.length_map]
  congr 2
  funext i
  show (!decide (now < zs.getD i 0)) = decide (zs.getD i 0 ≤ now)
  by_cases c : now < zs.getD i 0
  · rw [decide_eq_true c, decide_eq_false (by omega)]; rfl
  · rw [decide_eq_false c, decide_eq_true (by omega)]; rfl
theorem tick_tick (T : Int) (es : List He) : tickL T (es.map (tickE T)) = [] := by
  unfold tickL
  rw [List.filter_eq_nil_iff.2, List.map_nil]
  intro e he
  obtain ⟨x, _, rfl⟩ := List.mem_map.1 he
  unfold tickE
  by_cases c : overE T x = true
  · rw [if_pos c]; simp [overE]
  · rw [if_neg c]; exact c
theorem all_map (T : Int) (es : List He) : allL T (es.map (tickE T)) = allL T es := by
  unfold allL
  rw [List.filter_map, List.map_map]
  have e1 : (He.l ∘ tickE T) = He.l := by funext e; exact tickE_l T e
  have e2 : ((fun e : He => decide (T < e.l.un)) ∘ tickE T) = fun e : He => decide (T < e.l.un) := by funext e; simp only [Function.comp, tickE_l]
  rw [e1, e2]
theorem all_len (now : Int) (zs : List Int) : ∀ k : Nat, (allL now (lis zs k)).length + cntO now zs k = k
  | 0 => rfl
  | k + 1 => by
    have := all_len now zs k
    rw [cntO_succ]
    have e : allL now (lis zs (k + 1)) = allL now (lis zs k) ++ if zs.getD k 0 ≤ now then [] else [(heE zs k).l] := by
      unfold allL lis
      rw [List.range_succ, List.map_append, List.filter_append, List.map_append]
      congr 1
      by_cases c : zs.getD k 0 ≤ now
      · have : ¬ now < zs.getD k 0 := by omega
        simp only [List.map_cons, List.map_nil, List.filter_cons, heE, decide_eq_false this, if_pos c]
        rfl
      · have : now < zs.getD k 0 := by omega
        simp only [List.map_cons, List.map_nil, List.filter_cons, heE, decide_eq_true this, if_neg c]
        rfl
    rw [e, List.length_append]
    by_cases c : zs.getD k 0 ≤ now
    · rw [if_pos c, if_pos c, List.length_nil]; omega
    · rw [if_neg c, if_neg c, List.length_singleton]; omega

set_option maxHeartbeats 4000000 in
theorem tells_ok (aw : (sem (mkX Try.prog) 100000 99 39 [] ⟨17, .l⟩).map (·.1) = some (.b true)) {now : Int} {u : V} {zs : List Int} {h : H} (hh : h.next = 17) (hz : NumsAt h .i64 u zs) (hzs : ∀ z ∈ zs, -9223372036854775808 ≤ z ∧ z ≤ 9223372036854775807) : Ok Try.prog 100 11 [u, .i .i64 now] h (fun v _ => v = .b true) := by
  refine K11 (n := 99) fun hbd => ?_
  simp (disch := omega) only [F11, cf_k]
  refine ok_true' aw hh fun h1 hbd1 hb1 => ?_
  have hz1 := hz.keep (hz.lt hbd) hb1 (.inr rfl)
  have hu : ∀ q, vblk u = some q → q < h1.next := hz1.lt hbd1
  simp (disch := omega) only [ws, Bool.not_true, F11_4, nums_len tt38 rfl hz1]
  by_cases c1 : (30 : Int) < zs.length
  · simp (disch := omega) only [ws, dec_t c1]
  by_cases c2 : now < 0
  · simp (disch := omega) only [ws, dec_f c1, dec_t c2]
  by_cases c3 : 2000 < now
  · simp (disch := omega) only [ws, dec_f c1, dec_f c2, dec_t c3]
  simp (disch := omega) only [ws, dec_f c1, dec_f c2, dec_f c3, F11_7]
  refine at_ok (by omega) (by omega) fun h2 hbd2 hb2 => ?_
  refine at_ok (by omega) (by omega) fun h3 hbd3 hb3 => ?_
  refine new_ok (by omega) (by omega) (by omega) fun r h4 hbd4 hb4 hr4 ht4 => ?_
  simp (disch := omega) only [ws, List.getElem?_cons_zero, List.getElem?_cons_succ, decide_true, dec_t, Bool.not_true, F11_18]
  have hb14 := (hb2.trans hb3).trans hb4
  have hz4 := hz1.keep hu hb14 (.inr rfl)
  have hur : ∀ q, vblk u = some q → q ≠ r := fun q hq => by have := hu q hq; have := (hb2.trans hb3).1; omega
  have t0 : timeP 0 0 = 0 := rfl
  have tn0 : timeP 0 now = now := by unfold timeP; split <;> omega
  have tnn : timeP now now = now := by unfold timeP; split <;> omega
  -- the checks
  have last : ∀ (X : List Le) (x : V) (h5 : H), X.length ≤ 64 → VecE h5 x 92 11 encL X → (∀ e ∈ X, ∃ i, i < zs.length ∧ e = (heE zs i).l) → (X.Pairwise fun a b => a.a < b.a) → NumsAt h5 .i64 u zs → Bd h5 → F11_32 pw xx (Ok Try.prog 99) (fun v _ => v = .b true) u x h5 := by
    intro X x h5 hXl hx hX hXs hz5 hbd5
    simp only [F11_32]
    have loop : ∀ (fuel k : Nat) (h6 : H), X.length < fuel + k → k ≤ X.length → Bd h6 → But h5 h6 none → F11_38 pw xx (Ok Try.prog 99) (fun v _ => v = .b true) fuel u x (.i .i64 (k : Nat)) h6 := by
      intro fuel
      induction fuel with
      | zero => intro k h6 a1 a2; omega
      | succ fuel ih =>
        intro k h6 a1 a2 hbd6 hb6
        have hx6 := hx.keep (hx.lt hbd5) hb6 (.inr rfl)
        have hz6 := hz5.keep (hz5.lt hbd5) hb6 (.inr rfl)
        rw [S11_38, vece_len tt89 rfl hx6]
        by_cases hlt : k < X.length
        · obtain ⟨i, hi, hxe⟩ := hX X[k] (List.getElem_mem hlt)
          have e9 : ∀ o : Nat, o + 6 + Int.toNat 3 * 1 = o + 9 := fun o => by show o + 6 + 3 * 1 = o + 9; omega
          simp (disch := omega) only [ws, dec_t, F11_42]
          refine vece_at encL_len hx6 (i := k) rfl hlt fun b ha => ?_
          have l9 : ∀ κ : V → Prop, pw.l1 (.p b (k * 11 + 9)) h6 κ = κ (.i .u8 (100 + (i : Int))) := fun κ => by rw [ha.get (x := .i .u8 X[k].a) rfl, hxe]; rfl
          simp (disch := omega) only [ws, e9, l9]
          rw [show (100 : Int) + (i : Int) - 100 = (i : Nat) by omega]
          simp (disch := omega) only [ws, dec_f, nums_len tt38 rfl hz6]
          refine vece_at encL_len hx6 (i := k) rfl hlt fun b2 ha2 => ?_
          have l10 : ∀ κ : V → Prop, pw.l1 (.p b2 (k * 11 + 10)) h6 κ = κ (.i .i64 (zs.getD i 0)) := fun κ => by rw [ha2.get (x := .i .i64 X[k].un) rfl, hxe]; rfl
          simp (disch := omega) only [ws, l10]
          rw [nums_get hz6 (i := i) rfl hi]
          simp (disch := omega) only [ws, decide_true, Bool.not_true]
          refine vece_at encL_len hx6 (i := k) rfl hlt fun b3 ha3 => ?_
          have l0 : ∀ κ : V → Prop, pw.ln 6 (.p b3 (k * 11 + 0)) h6 κ = κ (.a (maV (i : Int))) := fun κ => by
            rw [ha3.getn (f := 0) (n := 6) (by omega), hxe]; rfl
          simp (disch := omega) only [ws, l0]
          refine mac_ok (by omega) (by omega) fun h7 hbd7 hb7 => ⟨fun z hz => hb7.2.1 z hz (by simp), ?_⟩
          have nxt : F11_46 pw xx (Ok Try.prog 99) (fun v _ => v = .b true) (F11_38 pw xx (Ok Try.prog 99) (fun v _ => v = .b true) fuel) u x (.i .i64 (k : Nat)) h7 := by
            simp (disch := omega) only [F11_46, ws]
            exact ih (k + 1) h7 (by omega) (by omega) hbd7 (hb6.trans hb7)
          simp (disch := omega) only [ws, nem_ok, decide_true, Bool.not_true]
          by_cases c5 : (0 : Int) < (k : Nat)
          · simp (disch := omega) only [ws, dec_t c5]
            refine vece_at encL_len hx6 (i := k) rfl hlt fun b4 ha4 => ?_
            have l9' : ∀ κ : V → Prop, pw.l1 (.p b4 (k * 11 + 9)) h6 κ = κ (.i .u8 X[k].a) := fun κ => ha4.get (x := .i .u8 X[k].a) rfl
            simp (disch := omega) only [ws, e9, l9']
            refine vece_at encL_len hx6 (i := k - 1) (by omega) (by omega) fun b5 ha5 => ?_
            have l9'' : ∀ κ : V → Prop, pw.l1 (.p b5 ((k - 1) * 11 + 9)) h6 κ = κ (.i .u8 X[k - 1].a) := fun κ => ha5.get (x := .i .u8 X[k - 1].a) rfl
            have hlt2 := List.pairwise_iff_getElem.1 hXs (k - 1) k (by omega) hlt (by omega)
            simp (disch := omega) only [ws, e9, l9'', dec_f]
            exact nxt
          · simp (disch := omega) only [ws, dec_f c5]
            exact nxt
        · simp (disch := omega) only [ws, dec_f, F11_35]
    exact loop 100000 0 h5 (by omega) (by omega) hbd5 (But.refl _ _)
  -- the leases are taken
  have loop : ∀ (fuel k : Nat) (h5 : H) (c5 : Option Nat), zs.length < fuel + k → k ≤ zs.length → Bd h5 → h4.next ≤ h5.next → PL h5 r c5 100 130 0 (lis zs k) → NumsAt h5 .i64 u zs → (∀ q, vblk u = some q → c5 ≠ some q) →
      F11_195 pw xx (Ok Try.prog 99) (fun v _ => v = .b true) fuel u (.i .i64 now) (.p r 0) (.i .i64 (cntO now zs k)) (.i .i64 (k : Nat)) h5 := by
    intro fuel
    induction fuel with
    | zero => intro k h5 c5 a1 a2; omega
    | succ fuel ih =>
      intro k h5 c5 a1 a2 hbd5 hn5 ht5 hz5 hcu
      have hu5 : ∀ q, vblk u = some q → q < h5.next := hz5.lt hbd5
      have hco := cntO_le now zs k
      rw [S11_195, nums_len tt38 rfl hz5]
      by_cases hlt : k < zs.length
      · simp (disch := omega) only [ws, dec_t, F11_201]
        rw [nums_get hz5 (i := k) rfl hlt]
        have hzk : -9223372036854775808 ≤ zs.getD k 0 ∧ zs.getD k 0 ≤ 9223372036854775807 := by
          rw [List.getD_eq_getElem?_getD, List.getElem?_eq_getElem hlt]
          exact hzs _ (List.getElem_mem hlt)
        have hsucc := cntO_succ now zs k
        have hlis : lis zs (k + 1) = lis zs k ++ [⟨⟨(k : Int), 100 + (k : Int), 0 + zs.getD k 0⟩, false⟩] := by
          unfold lis
          rw [List.range_succ, List.map_append, Int.zero_add]
          rfl
        generalize hzv : zs.getD k 0 = z at hzk hsucc hlis ⊢
        by_cases b1 : z < 1
        · simp (disch := omega) only [ws, dec_t b1]
        simp (disch := omega) only [ws, dec_f b1]
        rw [nums_get hz5 (i := k) rfl hlt, hzv]
        by_cases b2 : 1000 < z
        · simp (disch := omega) only [ws, dec_t b2]
        simp (disch := omega) only [ws, dec_f b2, F11_216]
        refine mac_ok (by omega) (by omega) fun h6 hbd6 hb6 => ⟨fun z hz => hb6.2.1 z hz (by simp), ?_⟩
        try simp (disch := omega) only [ws]
        refine at_ok (by omega) (by omega) fun h7 hbd7 hb7 => ⟨fun z hz => hb7.2.1 z hz (by simp), ?_⟩
        have hb57 := hb6.trans hb7
        dsimp only
        rw [nums_get hz5 (i := k) rfl hlt, hzv]
        try simp (disch := omega) only [ws]
        refine take_ok (by omega) (by rw [t0]; omega) (by omega) (by omega) (by omega) (by rw [lis_len]; omega) (fun e he => ?_) (ht5.keep hbd5 hb57) fun h8 c8 hbd8 ht8 hc8 hb8 => ?_
        · obtain ⟨i, hi, rfl⟩ := lis_mem he
          simp only [heE]
          exact ⟨by omega, by omega⟩
        rw [t0, ← hlis] at ht8
        have hz7 := hz5.keep hu5 hb57 (.inr rfl)
        have hz8 : NumsAt h8 .i64 u zs := hz7.keep2 (fun q hq => ⟨Nat.lt_of_lt_of_le (hu5 q hq) hb57.1, hur q hq, hcu q hq⟩) hb8
        simp (disch := omega) only [ws, decide_true, Bool.not_true, F11_222]
        rw [nums_get hz8 (i := k) rfl hlt, hzv]
        have hcu8 : ∀ q, vblk u = some q → c8 ≠ some q := fun q hq => by
          rcases hc8 with h | ⟨y, h, hy⟩
          · rw [h]; exact hcu q hq
          · rw [h]; intro e; cases e; have := hu5 q hq; have := hb57.1; omega
        have := ih (k + 1) h8 c8 (by omega) (by omega) hbd8 (Nat.le_trans hn5 (Nat.le_trans hb57.1 hb8.1)) ht8 hz8 hcu8
        rw [hsucc] at this
        by_cases b3 : z ≤ now
        · rw [if_pos b3] at this
          simp (disch := omega) only [ws, dec_t b3, F11_207]
          exact this
        · rw [if_neg b3] at this
          simp (disch := omega) only [ws, dec_f b3, F11_207]
          exact this
      · obtain rfl : k = zs.length := by omega
        simp (disch := omega) only [ws, dec_f, F11_23]
        have r255 : ∀ e ∈ lis zs zs.length, 0 ≤ e.l.a ∧ e.l.a ≤ 255 := fun e he => by
          obtain ⟨i, hi, rfl⟩ := lis_mem he
          simp only [heE]; omega
        have pw1 : (lis zs zs.length).Pairwise fun x y => x.l.a ≤ y.l.a := (lis_pw _ _).imp fun h => by omega
        have r255' : ∀ T, ∀ es : List He, (∀ e ∈ es, 0 ≤ e.l.a ∧ e.l.a ≤ 255) → ∀ e ∈ es.map (tickE T), 0 ≤ e.l.a ∧ e.l.a ≤ 255 := fun T es hes e he => by
          obtain ⟨x, hx, rfl⟩ := List.mem_map.1 he
          rw [tickE_l]; exact hes x hx
        have pw1' : ∀ T, ∀ es : List He, (es.Pairwise fun x y => x.l.a ≤ y.l.a) → (es.map (tickE T)).Pairwise fun x y => x.l.a ≤ y.l.a := fun T es hes => by
          rw [List.pairwise_map]
          refine hes.imp fun h => ?_
          rw [tickE_l, tickE_l]; exact h
        have hll := lis_len zs zs.length
        refine tick_ok (by omega) (by omega) r255 pw1 ht5 fun h6 x hbd6 hb6 ht6 hx6 hfx => ?_
        rw [tn0] at ht6 hx6
        have hxl := tick_len now zs zs.length
        simp (disch := omega) only [vece_len tt89 rfl hx6, hxl, ws, decide_true, Bool.not_true]
        refine tick_ok (by omega) (by rw [List.length_map]; omega) (r255' _ _ r255) (pw1' _ _ pw1) ht6 fun h7 y hbd7 hb7 ht7 hy7 hfy => ?_
        rw [tnn, tick_tick] at hy7
        rw [tnn] at ht7
        simp (disch := omega) only [vece_len tt89 rfl hy7, List.length_nil, ws]
        simp (disch := omega) only [ws, dec_t, decide_true, Bool.not_true, Int.ofNat_zero]
        refine all_ok (by omega) (by rw [List.length_map, List.length_map]; omega) (r255' _ _ (r255' _ _ r255)) (pw1' _ _ (pw1' _ _ pw1)) ht7 fun h8 w hbd8 hb8 ht8 hw8 hfw => ?_
        rw [tnn, all_map, all_map] at hw8
        have hal := all_len now zs zs.length
        have hz6 : NumsAt h6 .i64 u zs := hz5.keep2 (fun q hq => ⟨hu5 q hq, hur q hq, hcu q hq⟩) hb6
        have hz7 : NumsAt h7 .i64 u zs := hz6.keep2 (fun q hq => ⟨Nat.lt_of_lt_of_le (hu5 q hq) hb6.1, hur q hq, hcu q hq⟩) hb7
        have hz8 : NumsAt h8 .i64 u zs := hz7.keep (hz7.lt hbd7) hb8 (.inl fun e => hur r e rfl)
        simp (disch := omega) only [vece_len tt89 rfl hw8, nums_len tt38 rfl hz8, ws, dec_t, Bool.not_true]
        have hrl := (ht5.lt hbd5)
        have hxr : ∀ q, vblk x = some q → q < h6.next ∧ q ≠ r ∧ c5 ≠ some q := fun q hq => by
          have h1 := hfx q hq
          refine ⟨hx6.lt hbd6 q hq, by omega, fun e => ?_⟩
          have := hrl.2 q e
          omega
        have hx7 := vece_keep2 hx6 hxr hb7
        have hx8 := hx7.keep (hx7.lt hbd7) hb8 (.inl fun e => (hxr r e).2.1 rfl)
        refine last _ x h8 (by omega) hx8 (fun e he => ?_) ?_ hz8 hbd8
        · unfold tickL at he
          obtain ⟨y, hy, rfl⟩ := List.mem_map.1 he
          obtain ⟨i, hi, rfl⟩ := lis_mem (List.mem_filter.1 hy).1
          exact ⟨i, hi, rfl⟩
        · unfold tickL
          rw [List.pairwise_map]
          exact (lis_pw _ _).filter _
  exact loop 100000 0 h4 none (by omega) (by omega) hbd4 (Nat.le_refl _) ht4 hz4 fun q hq => by simp
end Go.Proofs.Ytfkbofbdonmpfaa.Wb
