/- What a text's signs, written by the program, come to. -/
import Derived.Test.YtbkhielalbbopaaGreatDoorZs8
set_option linter.unusedSimpArgs false
set_option linter.unusedVariables false
set_option linter.unusedSectionVars false
set_option linter.unnecessarySimpa false
set_option maxRecDepth 100000
namespace Go.Am.Xm
theorem get_in {s : Bs} {p k : Nat} : (⟨⟨s⟩⟩ : ByteArray).get! (p + k) = s[p + k]?.getD default := by
  show (⟨s⟩ : Array UInt8)[p + k]! = _
  simp only [List.getElem!_toArray]
  exact List.getElem!_eq_getElem?_getD
theorem size_in {s : Bs} : (⟨⟨s⟩⟩ : ByteArray).size = s.length := rfl
theorem hi_in {s : Bs} {p k : Nat} (h : (decide (p + k < (⟨⟨s⟩⟩ : ByteArray).size) && ((⟨⟨s⟩⟩ : ByteArray).get! (p + k)).toNat / 64 == 2) = true) : ∃ c, s[p + k]? = some c ∧ 128 ≤ c.toNat := by
  rw [Bool.and_eq_true, decide_eq_true_eq, size_in, beq_iff_eq, get_in] at h
  refine ⟨s[p + k]'h.1, List.getElem?_eq_getElem h.1, ?_⟩
  have := h.2
  rw [List.getElem?_eq_getElem h.1] at this
  simp only [Option.getD_some] at this
  omega
theorem dec_in {s : Bs} {p : Nat} {b : UInt8} (h : s[p]? = some b) (hb : 128 ≤ b.toNat) : ∀ j, 1 ≤ j → j < (Utf8.decode ⟨⟨s⟩⟩ p).2 → ∃ c, s[p + j]? = some c ∧ 128 ≤ c.toNat := by
  intro j h1 h2
  unfold Utf8.decode at h2
  simp only [get_at h] at h2
  rw [if_neg (by omega)] at h2
  split at h2
  · rename_i e
    rw [Bool.and_eq_true] at e
    split at h2
    · have : j = 1 := by simp only at h2; omega
      subst this
      exact hi_in e.2
    · simp only at h2; omega
  · split at h2
    · rename_i e
      rw [Bool.and_eq_true, Bool.and_eq_true] at e
      split at h2
      · simp only at h2
        have : j = 1 ∨ j = 2 := by omega
        rcases this with rfl | rfl
        · exact hi_in e.1.2
        · exact hi_in e.2
      · simp only at h2; omega
    · split at h2
      · rename_i e
        rw [Bool.and_eq_true, Bool.and_eq_true, Bool.and_eq_true] at e
        split at h2
        · simp only at h2
          have : j = 1 ∨ j = 2 ∨ j = 3 := by omega
          rcases this with rfl | rfl | rfl
          · exact hi_in e.1.1.2
          · exact hi_in e.1.2
          · exact hi_in e.2
        · simp only at h2; omega
      · simp only at h2; omega

/-- The name of a rune that may not stand. -/
def sgN (n : Nat) : Bs := if n = 38 then [38, 97, 109, 112, 59] else if n = 60 then [38, 108, 116, 59] else if n = 62 then [38, 103, 116, 59] else if n = 34 then [38, 113, 117, 111, 116, 59] else if n = 39 then [38, 97, 112, 111, 115, 59] else []
theorem sgN_hi {n : Nat} (h : 128 ≤ n) : sgN n = [] := by
  unfold sgN
  rw [if_neg (by omega), if_neg (by omega), if_neg (by omega), if_neg (by omega), if_neg (by omega)]
theorem u8_eq {b : UInt8} {n : Nat} (hn : n < 256) : b = UInt8.ofNat n ↔ b.toNat = n := by
  constructor
  · rintro rfl
    rw [UInt8.toNat_ofNat']
    exact Nat.mod_eq_of_lt hn
  · intro e
    apply UInt8.toNat.inj
    rw [UInt8.toNat_ofNat', e]
    exact (Nat.mod_eq_of_lt hn).symm
theorem escB_sgN (b : UInt8) : escB b = if sgN b.toNat = [] then [b] else sgN b.toNat := by
  unfold escB sgN
  have h1 : b = 38 ↔ b.toNat = 38 := u8_eq (n := 38) (by decide)
  have h2 : b = 60 ↔ b.toNat = 60 := u8_eq (n := 60) (by decide)
  have h3 : b = 62 ↔ b.toNat = 62 := u8_eq (n := 62) (by decide)
  have h4 : b = 34 ↔ b.toNat = 34 := u8_eq (n := 34) (by decide)
  have h5 : b = 39 ↔ b.toNat = 39 := u8_eq (n := 39) (by decide)
  simp only [h1, h2, h3, h4, h5]
  repeat' split
  all_goals first | rfl | contradiction | skip
  all_goals simp_all
theorem escB_hi {b : UInt8} (h : 128 ≤ b.toNat) : escB b = [b] := by rw [escB_sgN, if_pos (sgN_hi h)]
theorem esc_no : ∀ {l : Bs}, (∀ b ∈ l, escB b = [b]) → esc l = l
  | [], _ => rfl
  | a :: l, h => by
    rw [esc, h a (List.mem_cons_self ..), esc_no fun b hb => h b (List.mem_cons_of_mem _ hb)]
    rfl
end Go.Am.Xm
namespace Go.Proofs.YtbkhielalbbopaaGreatDoor.Wb
open Go Go.Am Go.Am.Xm

theorem Bh.wr2 {hS h : H} {r : Nat} {s : V} {bs : Bs} (B : Bh hS h r s bs) {n : Nat} (hn : 3 ≤ n) {l : Bs} (hl : bs.length + l.length ≤ 1099511627776) {K : V → H → Prop}
    (k : ∀ h' s', Bh hS h' r s' (bs ++ l) → But2 h h' r (vblk s) → (vblk s' = vblk s ∨ ∀ z, vblk s' = some z → h.next ≤ z) → K (.t [.i .i64 l.length, .ni]) h') : Ok Tryz.prog n 118 [.p r 0, .s l] h K := by
  refine wr_ok hn B.b hl fun h' s' b' f' e' => k h' s' ⟨b', ?_, B.r0, fun z hz => ?_⟩ f' e'
  · refine ⟨Nat.le_trans B.f.1 f'.1, fun p hp hq => ?_, f'.2.2 ∘ B.f.2.2⟩
    rw [f'.2.1 p (Nat.lt_of_lt_of_le hp B.f.1) (by have := B.r0; omega) (fun e => by have := B.s0 p e.symm; omega), B.f.2.1 p hp hq]
  · rcases e' with e | e
    · exact B.s0 z (e ▸ hz)
    · exact Nat.le_trans B.f.1 (e z hz)
theorem Bh.keepAt {hS h h' : H} {r : Nat} {s : V} {bs : Bs} {q : Nat} (B : Bh hS h r s bs) (f : But h h' (some q)) (h0 : hS.next ≤ q) (h1 : q ≠ r) (h2 : vblk s ≠ some q) : Bh hS h' r s bs :=
  ⟨B.b.keep f (by simpa using h1) (.inl h2), B.f.over f (.inr fun z e => by cases e; exact h0), B.r0, B.s0⟩
theorem but_putB {h : H} {r : Nat} {b : B} (hr : r < h.next) : But h (putB h r b) (some r) :=
  ⟨Nat.le_refl _, fun q hq hne => by
    show (h.mem.put r _).get q = _
    rw [T.get_put, if_neg (fun e => hne (by rw [e]))], fun hb => bd_putB hb hr⟩

theorem name_ok {n : Nat} (hn : 1 ≤ n) {c : Nat} {h : H} {K : V → H → Prop} (k : K (.s (sgN c)) h) : Ok Tryz.prog n 117 [.i .i32 c] h K := by
  obtain ⟨n, rfl⟩ := Nat.exists_eq_add_of_le' hn
  refine Ok.bd (K117 fun hbd => ?_)
  unfold F117
  simp only [c117, eq_i, F117_3]
  have e : ∀ m : Nat, decide ((c : Int) = (m : Int)) = decide (c = m) := fun m => by
    by_cases h : c = m
    · rw [decide_eq_true h, decide_eq_true (by omega)]
    · rw [decide_eq_false h, decide_eq_false (by omega)]
  unfold sgN at k
  have e1 := e 38
  have e2 := e 60
  have e3 := e 62
  have e4 := e 34
  have e5 := e 39
  simp only [Int.cast_ofNat_Int] at e1 e2 e3 e4 e5
  rw [e1, e2, e3, e4, e5]
  by_cases h1 : c = 38
  · rw [decide_eq_true h1, cd_t]
    rw [if_pos h1] at k
    exact fun _ => k
  rw [decide_eq_false h1, cd_f]
  rw [if_neg h1] at k
  by_cases h2 : c = 60
  · rw [decide_eq_true h2, cd_t]
    rw [if_pos h2] at k
    exact fun _ => k
  rw [decide_eq_false h2, cd_f]
  rw [if_neg h2] at k
  by_cases h3 : c = 62
  · rw [decide_eq_true h3, cd_t]
    rw [if_pos h3] at k
    exact fun _ => k
  rw [decide_eq_false h3, cd_f]
  rw [if_neg h3] at k
  by_cases h4 : c = 34
  · rw [decide_eq_true h4, cd_t]
    rw [if_pos h4] at k
    exact fun _ => k
  rw [decide_eq_false h4, cd_f]
  rw [if_neg h4] at k
  by_cases h5 : c = 39
  · rw [decide_eq_true h5, cd_t]
    rw [if_pos h5] at k
    exact fun _ => k
  rw [decide_eq_false h5, cd_f]
  rw [if_neg h5] at k
  exact fun _ => k
theorem sgN_len (c : Nat) : (sgN c).length ≤ 6 := by
  unfold sgN
  repeat' split
  all_goals simp

theorem escl_ok {n : Nat} (hn : 8 ≤ n) {hS : H} {K : V → H → Prop} {l : Bs} (hl : l.length < 100000)
    (k : ∀ h', But hS h' none → K (.s (esc l)) h') :
    ∀ (m p a fuel : Nat) (done : Bs) (h : H) (r ri : Nat) (s : V), l.length - p ≤ m → m < fuel → a ≤ p → p ≤ l.length → Bh hS h r s done → done ++ (l.drop a).take (p - a) = esc (l.take p) → h.mem.get ri = some (.it l p) → ri < h.next → hS.next ≤ ri → ri ≠ r → vblk s ≠ some ri →
      F83_17 pw (mkX Tryz.prog) (Ok Tryz.prog n) (fun v h => Bd h → K v h) fuel (.s l) (.p r 0) (.i .i64 a) (.p ri 0) h := by
  intro m
  have fin : ∀ {p a : Nat} {done : Bs} {h : H} {r : Nat} {s : V}, p = l.length → a ≤ p → Bh hS h r s done → done ++ (l.drop a).take (p - a) = esc (l.take p) → F83_5 pw (mkX Tryz.prog) (Ok Tryz.prog n) (fun v h => Bd h → K v h) (.s l) (.p r 0) (.i .i64 a) h := by
    intro p a done h r s hp ha B hd
    subst hp
    rw [List.take_of_length_le (Nat.le_refl _), List.take_of_length_le (by rw [List.length_drop]; omega)] at hd
    have hlen := esc_len l
    have : done.length + (l.drop a).length = (esc l).length := by rw [← List.length_append, hd]
    unfold F83_5
    simp only [cf_k]
    refine B.str (by omega) (by omega) fun h' f' => ?_
    rw [sc_s1 tt9 rfl ha, ad_s (by omega), hd]
    exact fun _ => k h' f'
  induction m with
  | zero =>
    intro p a fuel done h r ri s hm hf ha hp B hd hg hri h0 h1 h2
    obtain ⟨fuel, rfl⟩ : ∃ m, fuel = m + 1 := ⟨fuel - 1, by omega⟩
    rw [S83_17, nx_f hg (by omega)]
    simp only [ex_t, List.getElem?_cons_zero, oP_some, cd_f]
    exact fin (by omega) ha B hd
  | succ m ih =>
    intro p a fuel done h r ri s hm hf ha hp B hd hg hri h0 h1 h2
    obtain ⟨fuel, rfl⟩ : ∃ m, fuel = m + 1 := ⟨fuel - 1, by omega⟩
    rw [S83_17]
    by_cases hpl : p < l.length
    · rw [nx_t hg hpl]
      have hsp : l[p]? = some (l[p]'hpl) := List.getElem?_eq_getElem hpl
      have f1 : But h (putB h ri (.it l (p + (Utf8.decode ⟨⟨l⟩⟩ p).2))) (some ri) := but_putB hri
      have B1 := B.keepAt f1 h0 h1 h2
      have hg1 : (putB h ri (.it l (p + (Utf8.decode ⟨⟨l⟩⟩ p).2))).mem.get ri = some (.it l (p + (Utf8.decode ⟨⟨l⟩⟩ p).2)) := by
        show (h.mem.put ri _).get ri = _
        rw [T.get_put, if_pos rfl]
      have hri1 : ri < (putB h ri (.it l (p + (Utf8.decode ⟨⟨l⟩⟩ p).2))).next := hri
      revert f1 B1 hg1 hri1
      generalize putB h ri (.it l (p + (Utf8.decode ⟨⟨l⟩⟩ p).2)) = h1'
      intro f1 B1 hg1 hri1
      simp only [ex_t, List.getElem?_cons_zero, List.getElem?_cons_succ, oP_some, cd_t, F83_24, cf_k]
      refine name_ok (by omega) ?_
      simp only [ne_s]
      -- what stays as it is
      have stay : (∀ b ∈ (l.drop p).take (Utf8.decode ⟨⟨l⟩⟩ p).2, escB b = [b]) → p + (Utf8.decode ⟨⟨l⟩⟩ p).2 ≤ l.length → 1 ≤ (Utf8.decode ⟨⟨l⟩⟩ p).2 → F83_17 pw (mkX Tryz.prog) (Ok Tryz.prog n) (fun v h => Bd h → K v h) fuel (.s l) (.p r 0) (.i .i64 a) (.p ri 0) h1' := by
        intro e1 e2 e3
        refine ih _ a fuel done h1' r ri s (by omega) (by omega) (by omega) e2 B1 ?_ hg1 hri1 h0 h1 h2
        rw [List.take_add, esc_app, ← hd, esc_no e1, List.append_assoc]
        congr 1
        rw [show p + (Utf8.decode ⟨⟨l⟩⟩ p).2 - a = (p - a) + (Utf8.decode ⟨⟨l⟩⟩ p).2 by omega, List.take_add, List.drop_drop, show a + (p - a) = p by omega]
      by_cases hlo : (l[p]'hpl).toNat < 128
      · have ed := dec_lo hsp hlo
        rw [ed] at hg1 stay ⊢
        simp only at hg1 stay ⊢
        have e1 : (l.drop p).take 1 = [l[p]'hpl] := by
          rw [List.drop_eq_getElem_cons hpl]; rfl
        have eb := escB_sgN (l[p]'hpl)
        by_cases hs : sgN (l[p]'hpl).toNat = []
        · rw [if_pos hs] at eb
          rw [hs]
          simp only [beq_self_eq_true, Bool.not_true, cd_f]
          refine stay (fun b hb => ?_) (by omega) (Nat.le_refl _)
          rw [e1, List.mem_singleton] at hb
          rw [hb]; exact eb
        · rw [if_neg hs] at eb
          have : (sgN (l[p]'hpl).toNat == []) = false := by
            cases hc : (sgN (l[p]'hpl).toNat == ([] : Bs)) with
            | false => rfl
            | true => exact absurd (eq_of_beq hc) hs
          rw [this]
          simp only [Bool.not_false, cd_t]
          have hs6 := sgN_len (l[p]'hpl).toNat
          have hlen := esc_len (l.take p)
          have hlt : (l.take p).length ≤ p := List.length_take_le ..
          have : done.length + ((l.drop a).take (p - a)).length = (esc (l.take p)).length := by rw [← List.length_append, hd]
          rw [sc_s2 tt9 rfl ha hp, ad_s (by omega)]
          refine B1.wr2 (by omega) (by rw [List.length_append]; omega) fun h2' s2 B2 f2 e2 => ?_
          rw [show ∀ κ, pw.ad (mkX Tryz.prog) 3 (.i .i64 p) (.i .i64 1) κ = κ (.i .i64 ((p + 1 : Nat) : Int)) from fun κ => ?_]
          · have h2' : vblk s2 ≠ some ri := by
              rcases e2 with e | e
              · rw [e]; exact h2
              · intro e'
                have := e ri e'
                omega
            refine ih (p + 1) (p + 1) fuel _ _ r ri s2 (by omega) (by omega) (Nat.le_refl _) (by omega) B2 ?_ (f2.get hri1 h1 (fun e => h2 e.symm) hg1) (Nat.lt_of_lt_of_le hri1 f2.1) h0 h1 h2'
            rw [Nat.sub_self, List.take_zero, List.append_nil, List.take_add, esc_app, ← hd, e1, List.append_assoc]
            simp only [esc, eb, List.append_nil]
          · simp (disch := omega) only [ws]
            rfl
      · have hd1 := dec_hi hsp (by omega)
        rw [sgN_hi hd1.1]
        simp only [beq_self_eq_true, Bool.not_true, cd_f]
        have hin := dec_in hsp (by omega)
        refine stay (fun b hb => ?_) ?_ hd1.2
        · obtain ⟨j, hj, e⟩ := List.getElem_of_mem hb
          have hj' : j < (Utf8.decode ⟨⟨l⟩⟩ p).2 := by rw [List.length_take] at hj; omega
          have e' : l[p + j]? = some b := by
            rw [← e, List.getElem_take, List.getElem_drop]
            exact List.getElem?_eq_getElem _
          by_cases j0 : j = 0
          · subst j0
            rw [Nat.add_zero, hsp, Option.some.injEq] at e'
            rw [← e']
            exact escB_hi (by omega)
          · obtain ⟨c, hc, hc2⟩ := hin j (by omega) hj'
            rw [e', Option.some.injEq] at hc
            rw [hc]
            exact escB_hi hc2
        · by_cases h1 : (Utf8.decode ⟨⟨l⟩⟩ p).2 = 1
          · rw [h1]; omega
          · obtain ⟨c, hc, _⟩ := hin ((Utf8.decode ⟨⟨l⟩⟩ p).2 - 1) (by omega) (by omega)
            have := (List.getElem?_eq_some_iff.1 hc).1
            omega
    · rw [nx_f hg (by omega)]
      simp only [ex_t, List.getElem?_cons_zero, oP_some, cd_f]
      exact fin (by omega) ha B hd

/-- Escape: 'esc'. -/
theorem es_ok {n : Nat} (hn : 9 ≤ n) {h : H} {K : V → H → Prop} {l : Bs} (hl : l.length < 100000)
    (k : ∀ h', But h h' none → K (.s (esc l)) h') : Ok Tryz.prog n 83 [.s l] h K := by
  obtain ⟨n, rfl⟩ := Nat.exists_eq_add_of_le' hn
  refine Ok.bd (K83 fun hbd => ?_)
  unfold F83
  refine al_a tt165 fun r h1 hg f h2 h3 => ?_
  rw [rn_s tt9 rfl]
  have B := Bh.new hg f h2 h3
  have f1 : But h1 ⟨h1.next + 1, h1.mem.put h1.next (some (.it l 0))⟩ none := But.new ..
  refine escl_ok (by omega) hl k l.length 0 0 100000 [] _ r h1.next .ns (by omega) hl (Nat.le_refl _) (by omega) (B.keep f1) (by simp [esc]) ?_ (Nat.lt_succ_self _) f.1 (by omega) (by simp [vblk])
  show (h1.mem.put h1.next _).get h1.next = _
  rw [T.get_put, if_pos rfl]
end Go.Proofs.YtbkhielalbbopaaGreatDoor.Wb
