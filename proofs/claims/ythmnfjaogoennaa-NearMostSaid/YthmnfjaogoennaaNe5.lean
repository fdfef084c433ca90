/- Of more neighbours than there is room for the eldest go: the walk. -/
import Derived.Test.YthmnfjaogoennaaNe4
import Derived.Test.YthmnfjaogoennaaM3
set_option linter.unusedSimpArgs false
set_option linter.unusedVariables false
set_option linter.unusedSectionVars false
set_option linter.unnecessarySimpa false
set_option maxRecDepth 100000
namespace Go.Proofs.Ythmnfjaogoennaa.Wb
open Go.Am

theorem aw24 : isTrue (run Try.prog 100000 99 24 []) = true := by kernel_rfl

theorem fnd_none {a : Nat} : ∀ {es : List Ent} {k : Nat}, (∀ i (h : i < es.length), es[i].a ≠ a) → fnd a es k = -1
  | [], _, _ => rfl
  | e :: es, k, h => by
    simp only [fnd]
    have h0 : e.a ≠ a := h 0 (by simp)
    rw [if_neg h0, fnd_none fun i hi => h (i + 1) (by simpa using hi)]
theorem fnd_neg {a : Nat} : ∀ {es : List Ent} {k : Nat}, fnd a es k = -1 → ∀ i (h : i < es.length), es[i].a ≠ a
  | [], _, _, i, h => by simp at h
  | e :: es, k, hf, i, hi => by
    simp only [fnd] at hf
    by_cases he : e.a = a
    · rw [if_pos he] at hf; omega
    · rw [if_neg he] at hf
      cases i with
      | zero => exact he
      | succ i => exact fnd_neg hf i (by simpa using hi)

/-- The table: first those that are asked for, then those that are learnt. -/
def LrnL (s i : Nat) (es : List Ent) : Prop := es.length = s + min i (32 - s) ∧ ∀ j (h : j < es.length), oneV es[j].w = true ∧ (if j < s then es[j].a = 100 + j ∧ es[j].kn = false ∧ es[j].at' = 0 else es[j].a = i - min i (32 - s) + (j - s) ∧ es[j].kn = true ∧ es[j].at' = (i - min i (32 - s) + (j - s) : Nat))

theorem LrnL.seg {s i : Nat} {es : List Ent} (h : LrnL s i es) (hi : i ≤ 1000) : Seg s es := by
  refine ⟨fun j hj => ?_, fun j k hj hk hs hjk => ?_⟩
  · obtain ⟨h1, h2⟩ := h.2 j hj
    by_cases c : j < s
    · rw [if_pos c] at h2
      obtain ⟨_, h4, h5⟩ := h2
      exact ⟨by rw [h4, decide_eq_false (by omega)], by omega, by omega, h1⟩
    · rw [if_neg c] at h2
      obtain ⟨_, h4, h5⟩ := h2
      have := h.1
      exact ⟨by rw [h4, decide_eq_true (by omega)], by omega, by omega, h1⟩
  · obtain ⟨_, h1⟩ := h.2 j hj
    obtain ⟨_, h2⟩ := h.2 k hk
    rw [if_neg (by omega)] at h1 h2
    omega

theorem LrnL.step {s i m : Nat} {es : List Ent} (h : LrnL s i es) (hs : s ≤ 32) : LrnL s (i + 1) (if es.length = 32 ∧ 32 ≤ s then es else roomed s es ++ [learnE i m (i : Nat)]) := by
  have hl := h.1
  by_cases c : es.length = 32 ∧ 32 ≤ s
  · rw [if_pos c]
    refine ⟨by omega, fun j hj => ?_⟩
    obtain ⟨h1, h2⟩ := h.2 j hj
    refine ⟨h1, ?_⟩
    rw [if_pos (by omega)] at h2 ⊢
    exact h2
  · rw [if_neg c]
    unfold roomed
    by_cases c2 : es.length < 32
    · rw [if_pos c2]
      refine ⟨by simp; omega, fun j hj => ?_⟩
      rw [List.length_append, List.length_singleton] at hj
      by_cases c3 : j < es.length
      · rw [List.getElem_append_left c3]
        obtain ⟨h1, h2⟩ := h.2 j c3
        refine ⟨h1, ?_⟩
        by_cases c4 : j < s
        · rw [if_pos c4] at h2 ⊢; exact h2
        · rw [if_neg c4] at h2 ⊢
          have e : i + 1 - min (i + 1) (32 - s) + (j - s) = i - min i (32 - s) + (j - s) := by omega
          rw [e]; exact h2
      · rw [List.getElem_append_right (by omega)]
        have e : j - es.length = 0 := by omega
        simp only [e, List.getElem_cons_zero]
        refine ⟨rfl, ?_⟩
        rw [if_neg (by omega)]
        have e : i + 1 - min (i + 1) (32 - s) + (j - s) = i := by omega
        rw [e]
        exact ⟨rfl, rfl, rfl⟩
    · rw [if_neg c2]
      have hel : (es.eraseIdx s).length = es.length - 1 := List.length_eraseIdx_of_lt (by omega)
      refine ⟨by rw [List.length_append, hel, List.length_singleton]; omega, fun j hj => ?_⟩
      rw [List.length_append, hel, List.length_singleton] at hj
      by_cases c3 : j < es.length - 1
      · rw [List.getElem_append_left (by rw [hel]; exact c3), List.getElem_eraseIdx]
        by_cases c4 : j < s
        · simp only [dif_pos c4]
          obtain ⟨h1, h2⟩ := h.2 j (by omega)
          refine ⟨h1, ?_⟩
          rw [if_pos c4] at h2 ⊢; exact h2
        · simp only [dif_neg c4]
          obtain ⟨h1, h2⟩ := h.2 (j + 1) (by omega)
          refine ⟨h1, ?_⟩
          rw [if_neg (by omega)] at h2 ⊢
          have e : i + 1 - min (i + 1) (32 - s) + (j - s) = i - min i (32 - s) + (j + 1 - s) := by omega
          rw [e]; exact h2
      · rw [List.getElem_append_right (by omega)]
        have e : j - (es.eraseIdx s).length = 0 := by omega
        simp only [e, List.getElem_cons_zero]
        refine ⟨rfl, ?_⟩
        rw [if_neg (by omega)]
        have e : i + 1 - min (i + 1) (32 - s) + (j - s) = i := by omega
        rw [e]
        exact ⟨rfl, rfl, rfl⟩

/-- Those that are asked for, so far. -/
theorem LrnL.ask {i : Nat} {es : List Ent} {w : V} (h : LrnL (min i 32) 0 es) (hw : oneV w = true) : LrnL (min (i + 1) 32) 0 (if es.length < 32 then es ++ [askE (100 + i) 0 w] else es) := by
  have hl := h.1
  by_cases c : es.length < 32
  · rw [if_pos c]
    refine ⟨by simp; omega, fun j hj => ?_⟩
    rw [List.length_append, List.length_singleton] at hj
    rw [if_pos (by omega)]
    by_cases c3 : j < es.length
    · rw [List.getElem_append_left c3]
      obtain ⟨h1, h2⟩ := h.2 j c3
      rw [if_pos (by omega)] at h2
      exact ⟨h1, h2⟩
    · rw [List.getElem_append_right (by omega)]
      have e : j - es.length = 0 := by omega
      simp only [e, List.getElem_cons_zero]
      obtain rfl : j = i := by omega
      exact ⟨hw, rfl, rfl, rfl⟩
  · rw [if_neg c]
    refine ⟨by omega, fun j hj => ?_⟩
    obtain ⟨h1, h2⟩ := h.2 j hj
    rw [if_pos (by omega)] at h2 ⊢
    exact ⟨h1, h2⟩

theorem most_ok {n asked : Int} : Ok Try.prog 100 11 [.i .i64 n, .i .i64 asked] ⟨16, .l⟩ (fun v _ => v = .b true) := by
  refine K11 (n := 99) fun hbd => ?_
  simp (disch := omega) only [F11, ws]
  refine ok_true aw24 fun h1 hbd1 _ => ?_
  simp (disch := omega) only [ws, Bool.not_true, F11_4]
  by_cases c1 : n < 0
  · simp (disch := omega) only [ws, dec_t, dec_f]
  by_cases c2 : 100 < n
  · simp (disch := omega) only [ws, dec_t, dec_f]
  by_cases c3 : asked < 0
  · simp (disch := omega) only [ws, dec_t, dec_f]
  by_cases c4 : 40 < asked
  · simp (disch := omega) only [ws, dec_t, dec_f]
  obtain ⟨n, rfl⟩ := Int.eq_ofNat_of_zero_le (show 0 ≤ n by omega)
  obtain ⟨asked, rfl⟩ := Int.eq_ofNat_of_zero_le (show 0 ≤ asked by omega)
  simp (disch := omega) only [ws, dec_t, dec_f, F11_7]
  refine K25 (n := 98) fun _ => ?_
  simp (disch := omega) only [F25, F25_4, ws, dec_f]
  refine bl_a (v := .a [.i .i64 1000, .i .i64 0, .ns]) (by simp only [blW, ti, tt62, placesSt, cellsOfV, List.getElem?_cons_zero, fillA]; rfl) ?_
  refine bx_a (cs := [.i .i64 1000, .i .i64 0, .ns]) rfl fun r h2 hg2 hb2 hr1 hr2 => ?_
  have hbd2 : Bd h2 := hb2.2.2 hbd1
  have ht2 : NT h2 r none 0 [] := ⟨.ns, hg2, ⟨rfl, .inl ⟨rfl, rfl⟩⟩, rfl, by simp⟩
  simp (disch := omega) only [ws, List.getElem?_cons_succ, List.getElem?_cons_zero]
  clear hg2 hb2 hr1 hr2
  -- the last loop
  have last : ∀ (s : Nat), s ≤ 32 → s = min asked 32 → ∀ (fuel i : Nat) (h : H) (c : Option Nat) (now : Int) (es : List Ent), n < fuel + i → i ≤ n → Bd h → LrnL s n es → 0 ≤ now → now ≤ n → NT h r c now es →
      F11_57 pw xx (Ok Try.prog 99) (fun v _ => v = .b true) fuel (.i .i64 (n : Nat)) (.i .i64 (s : Nat)) (.p r 0) (.i .i64 (i : Nat)) h := by
    intro s hs hsa fuel
    induction fuel with
    | zero => intro i h c now es h1 h2; omega
    | succ fuel ih =>
      intro i h c now es hf hin hbd hL hn0 hn1 ht
      rw [S11_57]
      have hlen := hL.1
      by_cases hlt : i < n
      · simp (disch := omega) only [ws, dec_t, F11_62]
        refine addr_ok (by omega) (by omega) fun h3 hbd3 k3 => ?_
        try simp (disch := omega) only [ws]
        refine mac_ok (by omega) (ht.keep hbd k3) (fun e he => ?_) (by omega) (by omega) (by omega) fun h4 m ok hbd4 k4 ht4 ho1 ho2 => ?_
        · obtain ⟨j, hj, rfl⟩ := List.mem_iff_getElem.1 he
          have := (hL.seg (by omega)).1 j hj
          omega
        simp (disch := omega) only [ws, List.getElem?_cons_succ, List.getElem?_cons_zero]
        refine al_a tt40 fun b h5 g5 k5 p5 p5' => ?_
        refine sn_w (cs := macL m) g5 rfl rfl rfl rfl fun h6 g6 k6 => ?_
        have k46 : But h4 h6 none := k5.over k6 (.inr fun z e => by cases e; exact p5)
        have ht6 := ht4.keep hbd4 k46
        have hbd6 := k46.2.2 hbd4
        have hT : (if now < (n : Int) then (n : Int) else now) = (n : Int) := by split <;> omega
        rw [hT] at ho2 ht6
        have hok : ok = decide ((n : Int) - (32 - (s : Int)) ≤ (i : Int)) := by
          by_cases hneg : fnd i es 0 < 0
          · have e1 : fnd i es 0 = -1 := by have := fnd_lo (a := i) es 0; omega
            rw [ho1 e1]
            have hno := fnd_neg e1
            refine (decide_eq_false fun hle => ?_).symm
            have hj : s + (i - (n - min n (32 - s))) < es.length := by omega
            have h7 := hno _ hj
            have h8 := (hL.2 _ hj).2
            rw [if_neg (by omega)] at h8
            omega
          · obtain ⟨j, hj, e1, e2⟩ := fnd_some rfl (show 0 ≤ fnd i es 0 by omega)
            rw [Nat.zero_add] at e1
            rw [ho2 j hj e1]
            have h8 := (hL.2 j hj).2
            by_cases c5 : j < s
            · rw [if_pos c5] at h8; omega
            · rw [if_neg c5] at h8
              obtain ⟨h9, h10, h11⟩ := h8
              rw [h10, decide_eq_true (show (n : Int) - es[j].at' < 1000 by omega), decide_eq_true (by omega)]
              rfl
        simp (disch := omega) only [ws, ne_b tt4 rfl rfl rfl, hok, beq_self_eq_true, Bool.not_true, F11_67]
        exact ih (i + 1) h6 c n es (by omega) (by omega) hbd6 hL (by omega) (by omega) ht6
      · simp (disch := omega) only [ws, dec_f, F11_28]
        refine len_ok (by omega) ht ?_
        simp (disch := omega) only [ws, dec_t]
        by_cases c5 : (s : Int) + (n : Int) < 32
        · simp (disch := omega) only [ws, dec_t]
        · simp (disch := omega) only [ws, dec_f]
          refine len_ok (by omega) ht ?_
          simp (disch := omega) only [ws, dec_t]
  -- the loop that learns
  have mid : ∀ (s : Nat), s ≤ 32 → s = min asked 32 → ∀ (fuel i : Nat) (h : H) (c : Option Nat) (now : Int) (es : List Ent), n < fuel + i → i ≤ n → Bd h → LrnL s i es → 0 ≤ now → now ≤ i → (now < i ∨ i = 0) → NT h r c now es →
      F11_99 pw xx (Ok Try.prog 99) (fun v _ => v = .b true) fuel (.i .i64 (n : Nat)) (.i .i64 (s : Nat)) (.p r 0) (.i .i64 (i : Nat)) h := by
    intro s hs hsa fuel
    induction fuel with
    | zero => intro i h c now es h1 h2; omega
    | succ fuel ih =>
      intro i h c now es hf hin hbd hL hn0 hn1 hn2 ht
      rw [S11_99]
      have hlen := hL.1
      by_cases hlt : i < n
      · simp (disch := omega) only [ws, dec_t, F11_104]
        refine addr_ok (by omega) (by omega) fun h3 hbd3 k3 => ?_
        try simp (disch := omega) only [ws]
        refine bl_a (v := .a (macL i)) ?_ ?_
        · simp only [blW, ti, tt40, tt5, placesArr, cellsOfV, fillA]; rfl
        have hfn : fnd i es 0 = -1 := fnd_none fun j hj => by
          have h8 := (hL.2 j hj).2
          by_cases c5 : j < s
          · rw [if_pos c5] at h8; omega
          · rw [if_neg c5] at h8; omega
        refine learn_ok (by omega) (ht.keep hbd k3) (hL.seg (by omega)) (by omega) (by omega) (by omega) hfn fun h4 c4 hbd4 k4 hc4 ht4 => ?_
        have hT : (if now < (i : Int) then (i : Int) else now) = (i : Int) := by split <;> omega
        rw [hT] at ht4
        simp (disch := omega) only [ws, F11_109]
        exact ih (i + 1) h4 c4 i _ (by omega) (by omega) hbd4 (hL.step hs) (by omega) (by omega) (by omega) ht4
      · simp (disch := omega) only [ws, dec_f, F11_24]
        obtain rfl : i = n := by omega
        exact last s hs hsa 100000 0 h c now es (by omega) (by omega) hbd hL hn0 hn1 ht
  -- the loop that asks
  have fst : ∀ (fuel i : Nat) (h : H) (c : Option Nat) (es : List Ent), asked < fuel + i → i ≤ asked → Bd h → LrnL (min i 32) 0 es → NT h r c 0 es →
      F11_132 pw xx (Ok Try.prog 99) (fun v _ => v = .b true) fuel (.i .i64 (n : Nat)) (.i .i64 (asked : Nat)) (.p r 0) (.i .i64 (i : Nat)) h := by
    intro fuel
    induction fuel with
    | zero => intro i h c es h1 h2; omega
    | succ fuel ih =>
      intro i h c es hf hin hbd hL ht
      rw [S11_132]
      have hlen := hL.1
      have hle : es.length = min i 32 := by omega
      by_cases hlt : i < asked
      · simp (disch := omega) only [ws, dec_t, F11_137]
        rw [show (100 : Int) + (i : Int) = ((100 + i : Nat) : Int) by omega]
        refine addr_ok (by omega) (by omega) fun h3 hbd3 k3 => ?_
        try simp (disch := omega) only [ws]
        have hfn : fnd (100 + i) es 0 = -1 := fnd_none fun j hj => by
          have h8 := (hL.2 j hj).2
          rw [if_pos (by omega)] at h8; omega
        refine want_ok (by omega) (ht.keep hbd k3) (hle ▸ hL.seg (by omega)) (by omega) (by omega) (by omega) hfn fun h4 c4 w hw hbd4 k4 hc4 ht4 => ?_
        rw [if_neg (by omega)] at ht4
        simp only [nextV]
        rw [fd_1 (x := .b (decide (es.length < 32))) rfl]
        have e : decide (es.length < 32) = decide ((i : Int) < 32) := by
          by_cases c5 : i < 32
          · rw [decide_eq_true (by omega), decide_eq_true (by omega)]
          · rw [decide_eq_false (by omega), decide_eq_false (by omega)]
        simp (disch := omega) only [ws, ne_b tt4 rfl rfl rfl, e, beq_self_eq_true, Bool.not_true, F11_142]
        exact ih (i + 1) h4 c4 _ (by omega) (by omega) hbd4 (hL.ask hw) ht4
      · obtain rfl : i = asked := by omega
        simp (disch := omega) only [ws, dec_f, F11_16]
        by_cases c5 : 32 < i
        · simp (disch := omega) only [ws, dec_t, F11_20]
          exact mid 32 (by omega) (by omega) 100000 0 h c 0 es (by omega) (by omega) hbd (by rw [Nat.min_eq_right (by omega)] at hL; exact hL) (by omega) (by omega) (.inr rfl) ht
        · simp (disch := omega) only [ws, dec_f, F11_20]
          exact mid i (by omega) (by omega) 100000 0 h c 0 es (by omega) (by omega) hbd (by rw [Nat.min_eq_left (by omega)] at hL; exact hL) (by omega) (by omega) (.inr rfl) ht
  exact fst 100000 0 h2 none [] (by omega) (by omega) hbd2 ⟨rfl, fun j hj => by simp at hj⟩ ht2
end Go.Proofs.Ythmnfjaogoennaa.Wb
