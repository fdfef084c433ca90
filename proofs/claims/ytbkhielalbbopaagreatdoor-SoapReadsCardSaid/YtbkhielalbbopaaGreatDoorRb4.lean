/- The parser's trees: what is read, as a plain machine; trees in memory. -/
import Derived.Test.YtbkhielalbbopaaGreatDoorRb1
import Derived.Test.YtbkhielalbbopaaGreatDoorM5
import Derived.Test.YtbkhielalbbopaaGreatDoorUy0
set_option linter.unusedSimpArgs false
set_option linter.unusedVariables false
set_option linter.unusedSectionVars false
set_option linter.unnecessarySimpa false
set_option maxRecDepth 100000
namespace Go.Proofs.YtbkhielalbbopaaGreatDoor.Wb
open Go Go.Am Go.Am.Xm
inductive XT where
 | node (name text : Bs) (kids : List XT)
abbrev Te := Bs × Bs × V
def encT (e : Te) : List V := [.s e.1, .s e.2.1, e.2.2]
theorem encT_len (e : Te) : (encT e).length = 3 := rfl
mutual
def TrA (h : H) (N : Nat → Prop) : XT → Te → Prop
 | .node a b ks, e => e.1 = a ∧ e.2.1 = b ∧ ∃ es, VecE h e.2.2 63 3 encT es ∧ (∀ q, vblk e.2.2 = some q → N q ∧ q < h.next) ∧ TrsA h N ks es
def TrsA (h : H) (N : Nat → Prop) : List XT → List Te → Prop
 | [], es => es = []
 | t :: ts, es => ∃ e es', es = e :: es' ∧ TrA h N t e ∧ TrsA h N ts es'
end
def KeepN (h h' : H) (N : Nat → Prop) : Prop := h.next ≤ h'.next ∧ ∀ q, q < h.next → N q → h'.mem.get q = h.mem.get q
theorem vece_keepN {h h' : H} {N : Nat → Prop} {v : V} {el sz : Nat} {α : Type} {enc : α → List V} {es : List α} (hv : VecE h v el sz enc es) (hn : ∀ q, vblk v = some q → N q ∧ q < h.next) (k : KeepN h h' N) : VecE h' v el sz enc es := by
 obtain ⟨h1, h2⟩ := hv
 refine ⟨h1, ?_⟩
 rcases h2 with h2 | ⟨r, cap, e, l, rfl, h3, h4⟩
 ·exact .inl h2
 ·have := hn r rfl
  exact .inr ⟨r, cap, e, l, rfl, by rw [k.2 r this.2 this.1]; exact h3, h4⟩
mutual
theorem TrA.keep {h h' : H} {N M : Nat → Prop} (k : KeepN h h' N) (hM : ∀ q, q < h.next → N q → M q) : ∀ {t : XT} {e : Te}, TrA h N t e → TrA h' M t e
 | .node a b ks, e, ⟨h1, h2, es, h3, h4, h5⟩ => ⟨h1, h2, es, vece_keepN h3 h4 k, fun q hq => ⟨hM q (h4 q hq).2 (h4 q hq).1, Nat.lt_of_lt_of_le (h4 q hq).2 k.1⟩, h5.keep k hM⟩
theorem TrsA.keep {h h' : H} {N M : Nat → Prop} (k : KeepN h h' N) (hM : ∀ q, q < h.next → N q → M q) : ∀ {ts : List XT} {es : List Te}, TrsA h N ts es → TrsA h' M ts es
 | [], _, h1 => h1
 | _ :: _, _, ⟨e, es', h1, h2, h3⟩ => ⟨e, es', h1, h2.keep k hM, h3.keep k hM⟩
end
theorem TrsA.app {h : H} {N : Nat → Prop} {t : XT} {e : Te} (ht : TrA h N t e) : ∀ {ts : List XT} {es : List Te}, TrsA h N ts es → TrsA h N (ts ++ [t]) (es ++ [e])
 | [], es, h1 => by
  have : es = [] := h1
  subst this
  exact ⟨e, [], rfl, ht, rfl⟩
 | _ :: _, _, ⟨e1, es', rfl, h2, h3⟩ => ⟨e1, es' ++ [e], rfl, h2, h3.app ht⟩
theorem TrsA.len {h : H} {N : Nat → Prop} : ∀ {ts : List XT} {es : List Te}, TrsA h N ts es → es.length = ts.length
 | [], es, h1 => by
  have : es = [] := h1
  subst this; rfl
 | _ :: _, _, ⟨_, es', rfl, _, h3⟩ => by rw [List.length_cons, List.length_cons, h3.len]
def rmk : Bs := [60, 33, 45, 45]
def remP (p : PS) : Option (Bool × PS) := if tkB rmk p = true then match cut2 45 45 (p.1.drop 4) with
 | some b => some (true, wtP [62] (b.2, false))
 | none => some (true, wtP [62] (p.1.drop 4, true))
 else some (false, p)
def treeL (rc : PS → Int → Option (XT × PS × Int)) (nm : Bs) : Nat → Bs → List XT → PS → Int → Option ((Bs × List XT) × PS × Int)
 | 0, _, _, _, _ => none
 | m + 1, tx, ks, p, d => if p.2 = true then some ((tx, ks), p, d) else match cut1 60 p.1 with
  | none => some ((tx, ks), (p.1, true), d)
  | some (hd, _) => match remP (p.1.drop hd.length, badT hd) with
   | none => none
   | some (true, p3) => treeL rc nm m (tx ++ outT hd) ks p3 d
   | some (false, p3) => if tkB [60, 47] p3 = true then some ((tx ++ outT hd, ks), wtP [62] (blP (wtP nm (tkP [60, 47] p3))), d)
    else match rc (wtP [60] p3) d with
     | none => none
     | some (t, p5, d5) => treeL rc nm m (tx ++ outT hd) (ks ++ [t]) p5 d5
def treeP : Nat → Int → PS → Int → Option (XT × PS × Int)
 | 0, _, _, _ => none
 | k + 1, dp, p, d => if (openP p).1 = true then some (.node (plainS (nameS p.1)) [] [], (openP p).2, max d dp)
  else match treeL (fun q e => treeP k (dp + 1) q e) (nameS p.1) 100000 [] [] (openP p).2 (max d dp) with
   | none => none
   | some ((tx, ks), p2, d2) => some (.node (plainS (nameS p.1)) tx ks, p2, d2)
theorem opL_le : ∀ (m : Nat) (p : PS), (opL m p).2.1.length ≤ p.1.length
 | 0, p => Nat.le_refl _
 | m + 1, p => by
  have l1 := blP_le p
  have l2 := tkP_le [47, 62] (blP p)
  have l3 := tkP_le [62] (tkP [47, 62] (blP p))
  have l4 := wordP_le (tkP [62] (tkP [47, 62] (blP p)))
  have l5 := opL_le m (wordP (tkP [62] (tkP [47, 62] (blP p))))
  have l6 := opL_le m ((tkP [62] (tkP [47, 62] (blP p))).1, true)
  rw [opL]
  split
  ·exact Nat.le_refl _
  split
  ·simp only; omega
  split
  ·simp only; omega
  split
  ·omega
  ·simp only at l6; omega
theorem openP_le (p : PS) : (openP p).2.1.length ≤ p.1.length := Nat.le_trans (opL_le _ _) (nmP_le p)
theorem remP_le {p q : PS} {b : Bool} (h : remP p = some (b, q)) : q.1.length ≤ p.1.length := by
 unfold remP at h
 split at h
 ·split at h
  ·rename_i b' e
   cases h
   have h1 := cut2_len (a := b'.1) (b := b'.2) e
   have := wtP_le [62] (b'.2, false)
   rw [List.length_drop] at h1
   simp only at this
   omega
  ·cases h
   have := wtP_le [62] (p.1.drop 4, true)
   simp only [List.length_drop] at this
   omega
 ·cases h
  exact Nat.le_refl _
theorem treeL_le {rc : PS → Int → Option (XT × PS × Int)} {nm : Bs} (hr : ∀ {p d t q e}, rc p d = some (t, q, e) → q.1.length ≤ p.1.length) :
  ∀ (m : Nat) {tx ks p d o q e}, treeL rc nm m tx ks p d = some (o, q, e) → q.1.length ≤ p.1.length
 | 0, _, _, _, _, _, _, _, h => by cases h
 | m + 1, tx, ks, p, d, o, q, e, h => by
  rw [treeL] at h
  split at h
  ·cases h; exact Nat.le_refl _
  split at h
  ·cases h; exact Nat.le_refl _
  ·rename_i hd tl hc
   split at h
   ·cases h
   ·rename_i p3 e3
    have l1 := remP_le e3
    have l2 := treeL_le hr m h
    simp only [List.length_drop] at l1
    omega
   ·rename_i p3 e3
    have l1 := remP_le e3
    simp only [List.length_drop] at l1
    split at h
    ·cases h
     have a1 := tkP_le [60, 47] p3
     have a2 := wtP_le nm (tkP [60, 47] p3)
     have a3 := blP_le (wtP nm (tkP [60, 47] p3))
     have a4 := wtP_le [62] (blP (wtP nm (tkP [60, 47] p3)))
     omega
    ·split at h
     ·cases h
     ·rename_i t p5 d5 e5
      have a1 := hr e5
      have a2 := treeL_le hr m h
      have a3 := wtP_le [60] p3
      omega
theorem treeP_le : ∀ (k : Nat) {dp : Int} {p d t q e}, treeP k dp p d = some (t, q, e) → q.1.length ≤ p.1.length
 | 0, _, _, _, _, _, _, h => by cases h
 | k + 1, dp, p, d, t, q, e, h => by
  have l0 := openP_le p
  rw [treeP] at h
  split at h
  ·cases h; exact l0
  ·split at h
   ·cases h
   ·rename_i e1
    cases h
    have := treeL_le (fun h => treeP_le k h) 100000 e1
    omega
theorem unE_len : ∀ (n : Nat) {l o : Bs}, l.length ≤ n → unE l = some o → o.length ≤ 4 * l.length
 | n, [], o, _, h => by rw [unE_nil] at h; cases h; simp
 | 0, _ :: _, _, hl, _ => by simp at hl
 | n + 1, a :: l, o, hl, h => by
  simp only [List.length_cons] at hl ⊢
  by_cases ha : a = 38
  ·subst ha
   cases e : cut1 59 l with
   | none => rw [unE_amp_none e] at h; cases h
   | some p =>
    obtain ⟨nm, r⟩ := p
    have hc := cut1_len e
    rw [unE_amp e] at h
    split at h
    ·cases h
    ·rename_i c hs
     obtain ⟨o', h1, h2⟩ := Option.map_eq_some_iff.1 h
     have := unE_len n (show r.length ≤ n by omega) h1
     have := sgn_four hs
     rw [← h2, List.length_append]
     omega
  ·rw [unE_cons ha] at h
   obtain ⟨o', h1, h2⟩ := Option.map_eq_some_iff.1 h
   have := unE_len n (show l.length ≤ n by omega) h1
   rw [← h2, List.length_cons]
   omega
theorem outT_len (t : Bs) : (outT t).length ≤ 4 * t.length := by
 unfold outT
 cases h : unE t with
 | none => simp
 | some o => exact unE_len _ (Nat.le_refl _) h
theorem rem0_ok {n : Nat} (hn : 5 ≤ n) {r : Nat} {p : PS} {d : Int} {h : H} {K : V → H → Prop} (P : Prs h r p.1 p.2 d) (e : tkB [60, 33, 45, 45] p = false)
  (k : ∀ h', Prs h' r p.1 p.2 d → But h h' (some r) → K (.b false) h') : Ok Tryz.prog n 43 [.p r 0] h K := by
 obtain ⟨n, rfl⟩ := Nat.exists_eq_add_of_le' hn
 refine Ok.bd (K43 fun hbd => ?_)
 unfold F43
 simp only [cf_k, c43]
 refine take_ok (by omega) P fun h1 P1 f1 => ?_
 have e1 : (hasP [60, 33, 45, 45] p.1 && !p.2) = false := e
 rw [e1, nt_b, Bool.not_false, cd_t]
 have : ¬ (hasP [60, 33, 45, 45] p.1 = true ∧ p.2 = false) := by
  rintro ⟨h1, h2⟩
  rw [h1, h2] at e1
  cases e1
 rw [if_neg this] at P1
 exact fun _ => k h1 P1 f1
theorem rem_ok {n : Nat} (hn : 7 ≤ n) {r : Nat} {p q : PS} {b : Bool} {d : Int} {h : H} {K : V → H → Prop} (L : Low h) (hr : 16 ≤ r) (P : Prs h r p.1 p.2 d) (hl : p.1.length < 50000) (e : remP p = some (b, q))
  (k : ∀ h', Prs h' r q.1 q.2 d → But h h' (some r) → K (.b b) h') : Ok Tryz.prog n 43 [.p r 0] h K := by
 unfold remP at e
 cases ht : tkB rmk p with
 | false =>
  rw [if_neg (by rw [ht]; decide)] at e
  cases e
  exact rem0_ok (by omega) P ht k
 | true =>
  rw [if_pos ht] at e
  obtain ⟨s, bd⟩ := p
  simp only [tkB, Bool.and_eq_true, Bool.not_eq_true'] at ht
  obtain ⟨ht1, rfl⟩ := ht
  obtain ⟨n, rfl⟩ := Nat.exists_eq_add_of_le' hn
  refine Ok.bd (K43 fun hbd => ?_)
  unfold F43
  simp only [cf_k, c43]
  refine take_ok (by omega) P fun g1 P1 f1 => ?_
  have e1 : hasP [60, 33, 45, 45] s = true := ht1
  simp only [e1, Bool.not_false, Bool.and_self, nt_b, Bool.not_true, cd_f, and_self, if_true] at P1 ⊢
  unfold F43_3
  simp only [cf_k, c43]
  have P1 : Prs g1 r (s.drop 4) false d := P1
  simp only at e hl
  refine to2_ok (by omega) (L.keep f1 (fun q e => by cases e; exact hr)) P1 (by rw [List.length_drop]; omega) fun g2 b' c z hz P2 f2 => ?_
  refine want_ok (by omega) P2 fun g3 P3 f3 => ?_
  have P3 : Prs g3 r (wtP [62] (c, z)).1 (wtP [62] (c, z)).2 d := P3
  cases hc : cut2 45 45 (s.drop 4) with
  | none =>
   rw [hc] at e hz
   cases e
   obtain ⟨rfl, rfl⟩ := hz
   exact fun _ => k g3 P3 (f1.trans (f2.trans f3))
  | some v =>
   rw [hc] at e hz
   cases e
   obtain ⟨rfl, rfl⟩ := hz
   exact fun _ => k g3 P3 (f1.trans (f2.trans f3))
end Go.Proofs.YtbkhielalbbopaaGreatDoor.Wb

set_option maxRecDepth 100000
namespace Go.Am.Xm
def cutT (hp : Bs → Bool) (n : Nat) : Bs → Option (Bs × Bs)
 | [] => none
 | a :: l => if hp (a :: l) = true then some ([], (a :: l).drop n) else (cutT hp n l).map fun p => (a :: p.1, p.2)
end Go.Am.Xm
namespace Go.Proofs.YtbkhielalbbopaaGreatDoor.Wb
open Go Go.Am Go.Am.Xm
theorem cutT_1 (c : UInt8) : ∀ l : Bs, cutT (hasP [c]) 1 l = cut1 c l
 | [] => rfl
 | a :: l => by
  have ih := cutT_1 c l
  have e : hasP [c] (a :: l) = decide (a = c) := by
   show ([a] == [c]) = _
   rw [Bool.eq_iff_iff, beq_iff_eq, decide_eq_true_eq]
   simp
  rw [cutT, cut1, e, ih]
  by_cases h : a = c
  ·rw [decide_eq_true h, if_pos rfl, if_pos h]; rfl
  ·rw [decide_eq_false h, if_neg (by decide), if_neg h]
   cases cut1 c l <;> rfl
theorem cutT_2 (x y : UInt8) : ∀ l : Bs, cutT (hasP [x, y]) 2 l = cut2 x y l
 | [] => rfl
 | [a] => by
  rw [cutT, cut2]
  have : hasP [x, y] [a] = false := by
   show ([a] == [x, y]) = false
   simp
  rw [this]; rfl
 | a :: b :: l => by
  have ih := cutT_2 x y (b :: l)
  have e : hasP [x, y] (a :: b :: l) = decide (a = x ∧ b = y) := by
   show ([a, b] == [x, y]) = _
   rw [Bool.eq_iff_iff, beq_iff_eq, decide_eq_true_eq]
   simp
  rw [cutT, cut2, e, ih]
  by_cases h : a = x ∧ b = y
  ·rw [decide_eq_true h, if_pos rfl, if_pos h]; rfl
  ·rw [decide_eq_false h, if_neg (by decide), if_neg h]
def Rps (h : H) (r : Nat) (s : Bs) (p : PS) (d : Int) : Prop := ∃ (at_ : Nat) (g : Bool) (ty : TypeId), h.mem.get r = some (.c [.s s, .i .i64 at_, .b p.2, .b g] ty true) ∧ at_ ≤ s.length ∧ (p.2 = false → s.drop at_ = p.1 ∧ g = decide (8 < d))
theorem Rps.keep {h h' : H} {r : Nat} {s : Bs} {p : PS} {d : Int} {q : Option Nat} (P : Rps h r s p d) (f : But h h' q) (hr : r < h.next) (hq : q ≠ some r) : Rps h' r s p d := by
 obtain ⟨a, g, ty, h1, h2⟩ := P
 exact ⟨a, g, ty, f.get hr (fun e => hq e.symm) h1, h2⟩
theorem hasP_drop {s t : Bs} {a : Nat} (ha : a ≤ s.length) : hasP t (s.drop a) = (decide (t.length ≤ s.length - a) && ((s.drop a).take (a + t.length - a) == t)) := by
 unfold hasP
 rw [Nat.add_sub_cancel_left]
 by_cases h : t.length ≤ s.length - a
 ·rw [decide_eq_true h, Bool.true_and]
 ·rw [decide_eq_false h, Bool.false_and]
  cases e : ((s.drop a).take t.length == t) with
  | false => rfl
  | true =>
   have := congrArg List.length (eq_of_beq e)
   rw [List.length_take, List.length_drop] at this
   omega
theorem is_ok' {n : Nat} (hn : 1 ≤ n) {r : Nat} {s t : Bs} {p : PS} {d : Int} {h : H} {K : V → H → Prop} (P : Rps h r s p d) (hl : s.length < 50000) (ht : t.length < 50000) (k : K (.b (tkB t p)) h) : Ok Tryz.prog n 91 [.p r 0, .s t] h K := by
 obtain ⟨n, rfl⟩ := Nat.exists_eq_add_of_le' hn
 obtain ⟨a, g, ty, hg, ha, hp⟩ := P
 refine Ok.bd (K91 fun hbd => ?_)
 unfold F91
 have l0 : ∀ κ : V → Prop, pw.l1 (.p r 0) h κ = κ (.s s) := fun κ => l1_a hg rfl
 have l1 : ∀ κ : V → Prop, pw.l1 (.p r 1) h κ = κ (.i .i64 a) := fun κ => l1_a hg rfl
 have l2 : ∀ κ : V → Prop, pw.l1 (.p r 2) h κ = κ (.b p.2) := fun κ => l1_a hg rfl
 have lgs : ∀ (l : Bs) (κ : V → Prop), pw.lg (mkX Tryz.prog) 9 (.s l) κ = κ (.i .i64 (l.length : Int)) := fun l κ => lg_s tt9 rfl
 simp only [nl_p, fa_p, Nat.zero_add, l2, nt_b]
 unfold tkB at k
 cases hb : p.2 with
 | true =>
  rw [hb, Bool.not_true, Bool.and_false] at k
  simp only [Bool.not_true, g1_f, pk_f]
  exact fun _ => k
 | false =>
  obtain ⟨hd, _⟩ := hp hb
  rw [hb, Bool.not_false, Bool.and_true, ← hd, hasP_drop ha] at k
  simp only [Bool.not_false, g1_t, nl_p, fa_p, Nat.zero_add, l0, l1, lgs]
  rw [sb_64 (by omega), ge_i]
  by_cases hc : t.length ≤ s.length - a
  ·rw [decide_eq_true hc, Bool.true_and] at k
   rw [decide_eq_true (show (t.length : Int) ≤ (s.length : Int) - a by omega)]
   simp only [pk_t, g1_t, nl_p, fa_p, Nat.zero_add, l0, l1, lgs]
   rw [ad_64 (by omega), show (a : Int) + t.length = ((a + t.length : Nat) : Int) by omega, sc_s2 tt9 rfl (by omega) (by omega), eq_s]
   exact fun _ => k
  ·rw [decide_eq_false hc, Bool.false_and] at k
   rw [decide_eq_false (show ¬ (t.length : Int) ≤ (s.length : Int) - a by omega)]
   simp only [pk_t, g1_f, pk_f]
   exact fun _ => k
theorem tkB_true {t : Bs} {p : PS} (h : tkB t p = true) : hasP t p.1 = true ∧ p.2 = false := by
 unfold tkB at h
 simpa using h
theorem tkP_of {t : Bs} {p : PS} (h : tkB t p = true) : tkP t p = (p.1.drop t.length, false) := by
 have := tkB_true h
 unfold tkP
 rw [if_pos this, this.2]
theorem tkP_not {t : Bs} {p : PS} (h : tkB t p = false) : tkP t p = p := by
 unfold tkP
 rw [if_neg]
 intro e
 unfold tkB at h
 rw [e.1, e.2] at h
 cases h
theorem has_len {t l : Bs} (h : hasP t l = true) : t.length ≤ l.length := by
 have := congrArg List.length (eq_of_beq h)
 rw [List.length_take] at this
 omega
theorem take' {n : Nat} (hn : 2 ≤ n) {r : Nat} {s t : Bs} {p : PS} {d : Int} {h : H} {K : V → H → Prop} (P : Rps h r s p d) (hl : s.length < 50000) (ht : t.length < 50000)
  (k : ∀ h', Rps h' r s (tkP t p) d → But h h' (some r) → K (.b (tkB t p)) h') : Ok Tryz.prog n 54 [.p r 0, .s t] h K := by
 obtain ⟨n, rfl⟩ := Nat.exists_eq_add_of_le' (show 1 ≤ n by omega)
 refine Ok.bd (K54 fun hbd => ?_)
 unfold F54
 simp only [cf_k]
 refine is_ok' (by omega) P hl ht ?_
 rw [nt_b]
 cases e : tkB t p with
 | false =>
  rw [Bool.not_false, cd_t]
  rw [e, tkP_not e] at k
  exact fun _ => k h P (But.refl _ _)
 | true =>
  rw [Bool.not_true, cd_f]
  rw [e, tkP_of e] at k
  obtain ⟨a, g, ty, hg, ha, hp⟩ := P
  have hx := tkB_true e
  have hlen := has_len hx.1
  obtain ⟨hd, hgd⟩ := hp hx.2
  rw [← hd, List.length_drop] at hlen
  unfold F54_4
  simp only [nl_p, fa_p, Nat.zero_add]
  rw [l1_a hg rfl, lg_s tt9 rfl, ad_64 (by omega), show (a : Int) + t.length = ((a + t.length : Nat) : Int) by omega]
  refine s1_a hg (by simp) rfl fun h1 hg1 f1 => ?_
  refine fun _ => k h1 ⟨a + t.length, g, ty, ?_, by omega, fun _ => ⟨?_, hgd⟩⟩ f1
  ·rw [hg1, hx.2]; rfl
  ·rw [← List.drop_drop, hd]
theorem want' {n : Nat} (hn : 3 ≤ n) {r : Nat} {s t : Bs} {p : PS} {d : Int} {h : H} {K : V → H → Prop} (P : Rps h r s p d) (hl : s.length < 50000) (ht : t.length < 50000)
  (k : ∀ h', Rps h' r s (wtP t p) d → But h h' (some r) → K (.t []) h') : Ok Tryz.prog n 56 [.p r 0, .s t] h K := by
 obtain ⟨n, rfl⟩ := Nat.exists_eq_add_of_le' (show 1 ≤ n by omega)
 refine Ok.bd (K56 fun hbd => ?_)
 unfold F56
 simp only [cf_k]
 refine take' (by omega) P hl ht fun h1 P1 f1 => ?_
 rw [nt_b]
 cases e : tkB t p with
 | false =>
  rw [Bool.not_false, cd_t]
  rw [tkP_not e] at P1
  obtain ⟨a, g, ty, hg, ha, hp⟩ := P1
  simp only [nl_p, fa_p, Nat.zero_add]
  refine s1_a hg (by simp) rfl fun h2 hg2 f2 => ?_
  have hw : (wtP t p).2 = true := by
   unfold wtP tkB at *
   cases h1 : hasP t p.1 <;> cases h2 : p.2 <;> simp_all
  exact fun _ => k h2 ⟨a, g, ty, by rw [hg2, hw]; rfl, ha, fun e => by rw [hw] at e; cases e⟩ (f1.trans f2)
 | true =>
  rw [Bool.not_true, cd_f]
  have hx := tkB_true e
  have hw : wtP t p = tkP t p := by
   unfold wtP tkP
   rw [hx.1, hx.2]; rfl
  exact fun _ => k h1 (by rw [hw]; exact P1) f1
theorem blank' {n : Nat} (hn : 1 ≤ n) {c : UInt8} {h : H} {K : V → H → Prop} (k : K (.b (inS blk c)) h) : Ok Tryz.prog n 90 [.i .u8 c.toNat] h K := by
 obtain ⟨n, rfl⟩ := Nat.exists_eq_add_of_le' hn
 refine Ok.bd (K90 fun hbd => ?_)
 unfold F90
 have e : ∀ m : Nat, decide ((c.toNat : Int) = (m : Int)) = ((m : Nat) == c.toNat) := fun m => by
  rw [Bool.eq_iff_iff, decide_eq_true_eq, beq_iff_eq]; omega
 have e1 := e 32
 have e2 := e 9
 have e3 := e 10
 have e4 := e 13
 simp only [Int.cast_ofNat_Int] at e1 e2 e3 e4
 have hk : inS blk c = ((32 : Nat) == c.toNat || ((9 : Nat) == c.toNat || ((10 : Nat) == c.toNat || ((13 : Nat) == c.toNat || false)))) := rfl
 rw [hk] at k
 cases q1 : ((32 : Nat) == c.toNat) <;> cases q2 : ((9 : Nat) == c.toNat) <;> cases q3 : ((10 : Nat) == c.toNat) <;> cases q4 : ((13 : Nat) == c.toNat) <;> rw [q1, q2, q3, q4] at k <;> simp only [eq_i, e1, e2, e3, e4, q1, q2, q3, q4, g0_t, g0_f, pk_t, pk_f] <;> exact fun _ => k
def bkB (p : PS) : Bool := !p.2 && decide ((blP p).1.length < p.1.length)
theorem trimS_cons (cs : Bs) (c : UInt8) (l : Bs) : trimS cs (c :: l) = if inS cs c = true then trimS cs l else c :: l := by rw [trimS]
set_option maxHeartbeats 4000000 in
theorem blanks' {n : Nat} (hn : 2 ≤ n) {r : Nat} {s : Bs} {p : PS} {d : Int} {h : H} {K : V → H → Prop} (P : Rps h r s p d) (hl : s.length < 50000)
  (k : ∀ h', Rps h' r s (blP p) d → But h h' (some r) → K (.b (bkB p)) h') : Ok Tryz.prog n 52 [.p r 0] h K := by
 obtain ⟨n, rfl⟩ := Nat.exists_eq_add_of_le' (show 1 ≤ n by omega)
 refine Ok.bd (K52 fun hbd => ?_)
 unfold F52
 obtain ⟨a, g, ty, hg, ha, hp⟩ := P
 simp only [nl_p, fa_p, Nat.zero_add]
 rw [l1_a hg rfl]
 have lgs : ∀ (l : Bs) (κ : V → Prop), pw.lg (mkX Tryz.prog) 9 (.s l) κ = κ (.i .i64 (l.length : Int)) := fun l κ => lg_s tt9 rfl
 have go : ∀ (m i : Nat) (h' : H), s.length - i < m → a ≤ i → i ≤ s.length → h'.mem.get r = some (.c [.s s, .i .i64 i, .b p.2, .b g] ty true) → But h h' (some r) → (p.2 = true → i = a) → trimS blk (s.drop i) = trimS blk (s.drop a) →
   F52_18 pw (mkX Tryz.prog) (Ok Tryz.prog n) (fun v h => Bd h → K v h) m (.p r 0) (.i .i64 a) h' := by
  intro m
  induction m with
  | zero => intro i h' hm; omega
  | succ m ih =>
   intro i h' hm h1 h2 hg' f hbi ht
   rw [S52_18]
   have l0 : ∀ κ : V → Prop, pw.l1 (.p r 0) h' κ = κ (.s s) := fun κ => l1_a hg' rfl
   have l1 : ∀ κ : V → Prop, pw.l1 (.p r 1) h' κ = κ (.i .i64 i) := fun κ => l1_a hg' rfl
   have l2 : ∀ κ : V → Prop, pw.l1 (.p r 2) h' κ = κ (.b p.2) := fun κ => l1_a hg' rfl
   simp only [nl_p, fa_p, Nat.zero_add, l2, nt_b]
   have fin : (p.2 = false → s.drop i = trimS blk (s.drop a)) → F52_8 pw (mkX Tryz.prog) (Ok Tryz.prog n) (fun v h => Bd h → K v h) (.p r 0) (.i .i64 a) h' := by
    intro hf
    unfold F52_8
    simp only [nl_p, fa_p, Nat.zero_add, l1]
    rw [gt_i]
    have hb : decide ((a : Int) < (i : Int)) = bkB p := by
     unfold bkB
     cases hb : p.2 with
     | true =>
      have := hbi hb
      rw [decide_eq_false (by omega)]; rfl
     | false =>
      obtain ⟨hd, _⟩ := hp hb
      have e := congrArg List.length (hf hb)
      rw [List.length_drop] at e
      have e2 : (blP p).1.length = s.length - i := by
       show (trimS blk p.1).length = _
       rw [← hd]; exact e.symm
      rw [e2, ← hd, List.length_drop, Bool.not_false, Bool.true_and]
      exact decide_eq_decide.2 (by omega)
    rw [hb]
    refine fun _ => k h' ⟨i, g, ty, hg', h2, fun e => ?_⟩ f
    have e : p.2 = false := e
    obtain ⟨hd, hgd⟩ := hp e
    refine ⟨?_, hgd⟩
    show s.drop i = trimS blk p.1
    rw [← hd]; exact hf e
   cases hb : p.2 with
   | true =>
    simp only [Bool.not_true, g1_f, pk_f, cd_f]
    exact fin fun e => by rw [hb] at e; cases e
   | false =>
    simp only [Bool.not_false, g1_t, nl_p, fa_p, Nat.zero_add, l0, l1, lgs]
    rw [lt_i]
    by_cases hlt : i < s.length
    ·rw [decide_eq_true (show (i : Int) < s.length by omega)]
     have hs := List.getElem?_eq_getElem hlt
     generalize s[i] = c at hs
     have ix : ∀ κ : V → Prop, pw.ix (mkX Tryz.prog) 9 (.s s) (.i .i64 i) κ = κ (.i .u8 c.toNat) := fun κ => ix_s tt9 rfl hs
     simp only [pk_t, g1_t, nl_p, fa_p, Nat.zero_add, l0, l1, ix, cf_k]
     refine blank' (by omega) ?_
     have hdr := drop_at hs
     rw [hdr, trimS_cons] at ht
     cases hi : inS blk c with
     | true =>
      rw [hi, if_pos rfl] at ht
      simp only [pk_t, cd_t]
      unfold F52_21
      simp only [nl_p, fa_p, Nat.zero_add, l1]
      rw [ad_64 (by omega), show (i : Int) + 1 = ((i + 1 : Nat) : Int) by omega]
      refine s1_a hg' (by simp) rfl fun h2' hg2 f2 => ?_
      exact ih (i + 1) h2' (by omega) (by omega) (by omega) hg2 (f.trans f2) (fun e => by rw [hb] at e; cases e) ht
     | false =>
      rw [hi, if_neg (by decide)] at ht
      simp only [pk_t, cd_f]
      exact fin fun _ => by rw [hdr]; exact ht
    ·rw [decide_eq_false (show ¬ (i : Int) < s.length by omega)]
     simp only [pk_t, g1_f, pk_f, cd_f]
     refine fin fun _ => ?_
     rw [List.drop_eq_nil_of_le (by omega)] at ht ⊢
     exact ht
 exact go 100000 a h (by omega) (Nat.le_refl _) ha hg (But.refl _ _) (fun _ => rfl) rfl
def toT (t : Bs) (p : PS) : Bs × PS := if p.2 = true then ([], (p.1, true)) else match cutT (hasP t) t.length p.1 with
 | some q => (q.1, (q.2, false))
 | none => ([], (p.1, true))
theorem toT_1 (c : UInt8) (p : PS) : toT [c] p = toP c p := by
 unfold toP toT
 rw [show ([c] : Bs).length = 1 from rfl, cutT_1]
 split
 ·rfl
 ·cases cut1 c p.1 with
  | none => rfl
  | some q => rfl
set_option maxHeartbeats 4000000 in
theorem till' {n : Nat} (hn : 3 ≤ n) {r : Nat} {s t : Bs} {p : PS} {d : Int} {h : H} {K : V → H → Prop} (P : Rps h r s p d) (hl : s.length < 50000) (ht0 : t ≠ []) (ht : t.length < 50000)
  (k : ∀ h', Rps h' r s (toT t p).2 d → But h h' (some r) → K (.s (toT t p).1) h') : Ok Tryz.prog n 55 [.p r 0, .s t] h K := by
 obtain ⟨n, rfl⟩ := Nat.exists_eq_add_of_le' (show 1 ≤ n by omega)
 refine Ok.bd (K55 fun hbd => ?_)
 unfold F55
 have P0 := P
 obtain ⟨a, g, ty, hg, ha, hp⟩ := P
 simp only [nl_p, fa_p, Nat.zero_add]
 rw [l1_a hg rfl]
 rw [show (100000 : Nat) = 99999 + 1 from rfl]
 cases hb : p.2 with
 | true =>
  have e : toT t p = ([], (p.1, true)) := by unfold toT; rw [if_pos hb]
  rw [e] at k
  have hpp : (p.1, true) = p := by rw [← hb]
  rw [hpp] at k
  have l2 : ∀ κ : V → Prop, pw.l1 (.p r 2) h κ = κ (.b true) := fun κ => by rw [l1_a hg rfl, hb]
  rw [S55_39]
  simp only [nl_p, fa_p, Nat.zero_add, l2, nt_b, Bool.not_true, g1_f, pk_f, cd_f]
  unfold F55_9
  simp only [nl_p, fa_p, Nat.zero_add, l2, nt_b, Bool.not_true, cd_f]
  unfold F55_14
  simp only [cf_k]
  refine take' (by omega) P0 hl ht fun h1 P1 f1 => ?_
  have : tkP t p = p := tkP_not (by unfold tkB; rw [hb, Bool.not_true, Bool.and_false])
  rw [this] at P1
  exact fun _ => k h1 P1 f1
 | false =>
  obtain ⟨hd, hgd⟩ := hp hb
  have lgs : ∀ (l : Bs) (κ : V → Prop), pw.lg (mkX Tryz.prog) 9 (.s l) κ = κ (.i .i64 (l.length : Int)) := fun l κ => lg_s tt9 rfl
  have hR : toT t p = match cutT (hasP t) t.length p.1 with
   | some q => (q.1, (q.2, false))
   | none => ([], (p.1, true)) := by unfold toT; rw [if_neg (by rw [hb]; decide)]
  have go : ∀ (m i : Nat) (h' : H), s.length - i < m → a ≤ i → i ≤ s.length → h'.mem.get r = some (.c [.s s, .i .i64 i, .b p.2, .b g] ty true) → But h h' (some r) →
    cutT (hasP t) t.length p.1 = (cutT (hasP t) t.length (s.drop i)).map (fun q => ((s.drop a).take (i - a) ++ q.1, q.2)) →
    F55_39 pw (mkX Tryz.prog) (Ok Tryz.prog n) (fun v h => Bd h → K v h) m (.p r 0) (.s t) (.i .i64 a) h' := by
   intro m
   induction m with
   | zero => intro i h' hm; omega
   | succ m ih =>
    intro i h' hm h1 h2 hg' f hc
    rw [S55_39]
    have l0 : ∀ κ : V → Prop, pw.l1 (.p r 0) h' κ = κ (.s s) := fun κ => l1_a hg' rfl
    have l1 : ∀ κ : V → Prop, pw.l1 (.p r 1) h' κ = κ (.i .i64 i) := fun κ => l1_a hg' rfl
    have l2 : ∀ κ : V → Prop, pw.l1 (.p r 2) h' κ = κ (.b false) := fun κ => by rw [l1_a hg' rfl, hb]
    simp only [nl_p, fa_p, Nat.zero_add, l2, nt_b, Bool.not_false, g1_t, cf_k]
    have P' : Rps h' r s (s.drop i, false) d := ⟨i, g, ty, by rw [hg', hb], h2, fun _ => ⟨rfl, hgd⟩⟩
    refine is_ok' (by omega) P' hl ht ?_
    have et : tkB t (s.drop i, false) = hasP t (s.drop i) := by unfold tkB; rw [Bool.not_false, Bool.and_true]
    rw [et, nt_b]
    cases hh : hasP t (s.drop i) with
    | true =>
     simp only [Bool.not_true, pk_t, cd_f]
     unfold F55_9
     simp only [nl_p, fa_p, Nat.zero_add, l0, l1, l2, nt_b, Bool.not_false, cd_t]
     rw [sc_s2 tt9 rfl h1 h2]
     unfold F55_14
     simp only [cf_k]
     refine take' (by omega) P' hl ht fun h1' P1 f1 => ?_
     rw [tkP_of (by rw [et]; exact hh)] at P1
     have hcc : cutT (hasP t) t.length (s.drop i) = some ([], (s.drop i).drop t.length) := by
      have hlen := has_len hh
      cases hdi : s.drop i with
      | nil =>
       rw [hdi] at hlen
       exact absurd (List.length_eq_zero_iff.1 (by simpa using hlen)) ht0
      | cons b l => rw [hdi] at hh; rw [cutT, if_pos hh]
     rw [hcc] at hc
     rw [hR, hc] at k
     simp only [Option.map_some, List.append_nil] at k
     exact fun _ => k h1' P1 (f.trans f1)
    | false =>
     simp only [Bool.not_false, pk_t, cd_t]
     unfold F55_43
     simp only [nl_p, fa_p, Nat.zero_add, l0, l1, lgs]
     rw [ge_i]
     by_cases hlt : i < s.length
     ·rw [decide_eq_false (show ¬ (s.length : Int) ≤ i by omega), cd_f]
      unfold F55_47
      simp only [nl_p, fa_p, Nat.zero_add, l1]
      rw [ad_64 (by omega), show (i : Int) + 1 = ((i + 1 : Nat) : Int) by omega]
      refine s1_a hg' (by simp) rfl fun h2' hg2 f2 => ?_
      refine ih (i + 1) h2' (by omega) (by omega) (by omega) hg2 (f.trans f2) ?_
      have hs := List.getElem?_eq_getElem hlt
      generalize s[i] = c at hs
      have hdr := drop_at hs
      rw [hc]
      rw [hdr] at hh ⊢
      rw [cutT, if_neg (by rw [hh]; decide), Option.map_map]
      congr 1
      funext q
      simp only [Function.comp_apply, Prod.mk.injEq, and_true]
      have : (s.drop a).take (i + 1 - a) = (s.drop a).take (i - a) ++ [c] := by
       rw [show i + 1 - a = (i - a) + 1 by omega, List.take_add_one]
       congr 1
       rw [List.getElem?_drop, show a + (i - a) = i by omega, hs]; rfl
      rw [this, List.append_assoc]; rfl
     ·rw [decide_eq_true (show (s.length : Int) ≤ i by omega), cd_t]
      try simp only [nl_p, fa_p, Nat.zero_add]
      refine s1_a hg' (by simp) rfl fun h2' hg2 f2 => ?_
      rw [List.drop_eq_nil_of_le (show s.length ≤ i by omega)] at hc
      simp only [cutT, Option.map_none] at hc
      rw [hR, hc] at k
      exact fun _ => k h2' ⟨i, g, ty, hg2, h2, fun e => by cases e⟩ (f.trans f2)
  refine go (99999 + 1) a h (by omega) (Nat.le_refl _) ha hg (But.refl _ _) ?_
  rw [hd, Nat.sub_self]
  cases cutT (hasP t) t.length p.1 <;> simp
theorem remark' {n : Nat} (hn : 4 ≤ n) {r : Nat} {s : Bs} {p q : PS} {b : Bool} {d : Int} {h : H} {K : V → H → Prop} (P : Rps h r s p d) (hl : s.length < 50000) (e : remP p = some (b, q))
  (k : ∀ h', Rps h' r s q d → But h h' (some r) → K (.b b) h') : Ok Tryz.prog n 53 [.p r 0] h K := by
 obtain ⟨n, rfl⟩ := Nat.exists_eq_add_of_le' (show 1 ≤ n by omega)
 refine Ok.bd (K53 fun hbd => ?_)
 unfold F53
 simp only [cf_k, c53]
 refine take' (by omega) P hl (by decide) fun h1 P1 f1 => ?_
 have er : tkB [60, 33, 45, 45] p = tkB rmk p := rfl
 rw [er, nt_b]
 unfold remP at e
 cases ht : tkB rmk p with
 | false =>
  rw [if_neg (by rw [ht]; decide)] at e
  cases e
  rw [Bool.not_false, cd_t]
  rw [tkP_not (t := [60, 33, 45, 45]) ht] at P1
  exact fun _ => k h1 P1 f1
 | true =>
  rw [if_pos ht] at e
  rw [Bool.not_true, cd_f]
  rw [tkP_of (t := [60, 33, 45, 45]) ht] at P1
  unfold F53_3
  simp only [cf_k, c53]
  refine till' (by omega) P1 hl (by simp) (by decide) fun h2 P2 f2 => ?_
  refine want' (by omega) P2 hl (by decide) fun h3 P3 f3 => ?_
  have et : toT [45, 45] (p.1.drop 4, false) = match cut2 45 45 (p.1.drop 4) with
   | some q => (q.1, (q.2, false))
   | none => ([], (p.1.drop 4, true)) := by
   unfold toT
   rw [if_neg Bool.false_ne_true, ← cutT_2]; rfl
  have P3 : Rps h3 r s (wtP [62] (toT [45, 45] (p.1.drop 4, false)).2) d := P3
  rw [et] at P3
  cases hc : cut2 45 45 (p.1.drop 4) with
  | none =>
   rw [hc] at e P3
   cases e
   exact fun _ => k h3 P3 (f1.trans (f2.trans f3))
  | some v =>
   rw [hc] at e P3
   cases e
   exact fun _ => k h3 P3 (f1.trans (f2.trans f3))
def fsC (n : Nat) : Bool := decide (97 ≤ n) && decide (n ≤ 122) || decide (65 ≤ n) && decide (n ≤ 90) || decide (n = 95) || decide (n = 58)
def mrC (n : Nat) : Bool := decide (48 ≤ n) && decide (n ≤ 57) || decide (n = 45) || decide (n = 46)
theorem nm_all : (List.range 256).all (fun n => inS nmS (UInt8.ofNat n) == (fsC n || mrC n) && decide (0 ≤ Lib.indexByte mrS (UInt8.ofNat n)) == mrC n && !(fsC n && mrC n)) = true := by decide +kernel
theorem nm_c (c : UInt8) : inS nmS c = (fsC c.toNat || mrC c.toNat) ∧ decide (0 ≤ Lib.indexByte mrS c) = mrC c.toNat ∧ (fsC c.toNat && mrC c.toNat) = false := by
 have := List.all_eq_true.1 nm_all c.toNat (List.mem_range.2 c.toNat_lt)
 rw [show UInt8.ofNat c.toNat = c by simp] at this
 simp only [Bool.and_eq_true, beq_iff_eq, Bool.not_eq_true'] at this
 exact ⟨this.1.1, this.1.2, this.2⟩
theorem nameS_app (s : Bs) : nameS s ++ trimS nmS s = s := by
 unfold nameS
 have key : ∀ l : Bs, l.drop (l.length - (trimS nmS l).length) = trimS nmS l := by
  intro l
  induction l with
  | nil => rfl
  | cons a l ih =>
   rw [trimS_cons]
   cases h : inS nmS a with
   | true =>
    simp only [if_true]
    have := trimS_len nmS l
    rw [List.length_cons, show l.length + 1 - (trimS nmS l).length = (l.length - (trimS nmS l).length) + 1 by omega, List.drop_succ_cons]
    exact ih
   | false => simp
 conv => rhs; rw [← List.take_append_drop (s.length - (trimS nmS s).length) s]
 rw [key]
theorem nameS_cons (a : UInt8) (l : Bs) : nameS (a :: l) = if inS nmS a = true then a :: nameS l else [] := by
 unfold nameS
 rw [trimS_cons]
 cases h : inS nmS a with
 | true =>
  simp only [if_true]
  have := trimS_len nmS l
  rw [List.length_cons, show l.length + 1 - (trimS nmS l).length = (l.length - (trimS nmS l).length) + 1 by omega, List.take_succ_cons]
 | false => simp
theorem fsK {t : TypeId} {z : Nat} {R : V → H → Prop} {h : H} (k : R (.b (fsC z)) h) :
  pw.ge (mkX Tryz.prog) 5 (.i .u8 z) (.i .u8 97) fun v65 => pw.g1 v65 (fun κ => κ (.i .u8 z) h) h fun v68 h68 => pw.g1 v65 (fun κ => pw.le (mkX Tryz.prog) 5 v68 (.i .u8 122) fun v69 => κ v69 h68) h68 fun v70 h70 => pw.pk v65 v70 (.b false) fun v71 => pw.g0 v71 (fun κ => κ (.i .u8 z) h70) h70 fun v74 h74 => pw.g0 v71 (fun κ => pw.ge (mkX Tryz.prog) 5 v74 (.i .u8 65) fun v75 => κ v75 h74) h74 fun v76 h76 => pw.g0 v71 (fun κ => κ v76 h76) h76 fun v78 h78 => pw.g1 v78 (fun κ => κ (.i .u8 z) h78) h78 fun v80 h80 => pw.g1 v78 (fun κ => pw.le (mkX Tryz.prog) 5 v80 (.i .u8 90) fun v81 => κ v81 h80) h80 fun v82 h82 => pw.g0 v71 (fun κ => pw.pk v78 v82 (.b false) fun v83 => κ v83 h82) h82 fun v84 h84 => pw.pk v71 (.b true) v84 fun v85 => pw.g0 v85 (fun κ => κ (.i .u8 z) h84) h84 fun v88 h88 => pw.g0 v85 (fun κ => pw.eq (mkX Tryz.prog) 5 v88 (.i .u8 95) fun v89 => κ v89 h88) h88 fun v90 h90 => pw.pk v85 (.b true) v90 fun v91 => pw.g0 v91 (fun κ => κ (.i .u8 z) h90) h90 fun v94 h94 => pw.g0 v91 (fun κ => pw.eq (mkX Tryz.prog) 5 v94 (.i .u8 58) fun v95 => κ v95 h94) h94 fun v96 h96 => pw.pk v91 (.b true) v96 fun v97 => R v97 h96 := by
 have e1 : decide ((97 : Int) ≤ (z : Int)) = decide (97 ≤ z) := decide_eq_decide.2 (by omega)
 have e2 : decide ((z : Int) ≤ 122) = decide (z ≤ 122) := decide_eq_decide.2 (by omega)
 have e3 : decide ((65 : Int) ≤ (z : Int)) = decide (65 ≤ z) := decide_eq_decide.2 (by omega)
 have e4 : decide ((z : Int) ≤ 90) = decide (z ≤ 90) := decide_eq_decide.2 (by omega)
 have e5 : decide ((z : Int) = 95) = decide (z = 95) := decide_eq_decide.2 (by omega)
 have e6 : decide ((z : Int) = 58) = decide (z = 58) := decide_eq_decide.2 (by omega)
 unfold fsC at k
 cases q1 : decide (97 ≤ z) <;> cases q2 : decide (z ≤ 122) <;> cases q3 : decide (65 ≤ z) <;> cases q4 : decide (z ≤ 90) <;> cases q5 : decide (z = 95) <;> cases q6 : decide (z = 58) <;> rw [q1, q2, q3, q4, q5, q6] at k <;> simp only [ge_i, le_i, eq_i, e1, e2, e3, e4, e5, e6, q1, q2, q3, q4, q5, q6, g0_t, g0_f, g1_t, g1_f, g0_u, g1_u, pk_t, pk_f] <;> exact k
set_option maxHeartbeats 8000000 in
theorem name' {n : Nat} (hn : 1 ≤ n) {r : Nat} {s : Bs} {p : PS} {d : Int} {h : H} {K : V → H → Prop} (P : Rps h r s p d) (hl : s.length < 50000)
  (k : ∀ h' t, Rps h' r s (nmP p) d → But h h' (some r) → ((nmP p).2 = false → t = nameS p.1) → t.length ≤ s.length → K (.s t) h') : Ok Tryz.prog n 92 [.p r 0] h K := by
 obtain ⟨n, rfl⟩ := Nat.exists_eq_add_of_le' hn
 refine Ok.bd (K92 fun hbd => ?_)
 unfold F92
 obtain ⟨a, g, ty, hg, ha, hp⟩ := P
 simp only [nl_p, fa_p, Nat.zero_add]
 rw [l1_a hg rfl]
 have lgs : ∀ (l : Bs) (κ : V → Prop), pw.lg (mkX Tryz.prog) 9 (.s l) κ = κ (.i .i64 (l.length : Int)) := fun l κ => lg_s tt9 rfl
 have go : ∀ (m i : Nat) (h' : H), s.length - i < m → a ≤ i → i ≤ s.length → h'.mem.get r = some (.c [.s s, .i .i64 i, .b p.2, .b g] ty true) → But h h' (some r) → (p.2 = true → i = a) →
   (p.2 = false → trimS nmS (s.drop i) = trimS nmS (s.drop a) ∧ (a < i → ∃ c, s[a]? = some c ∧ fsC c.toNat = true)) →
   F92_48 pw (mkX Tryz.prog) (Ok Tryz.prog n) (fun v h => Bd h → K v h) m (.p r 0) (.i .i64 a) h' := by
  intro m
  induction m with
  | zero => intro i h' hm; omega
  | succ m ih =>
   intro i h' hm h1 h2 hg' f hbi ht
   rw [S92_48]
   have l0 : ∀ κ : V → Prop, pw.l1 (.p r 0) h' κ = κ (.s s) := fun κ => l1_a hg' rfl
   have l1 : ∀ κ : V → Prop, pw.l1 (.p r 1) h' κ = κ (.i .i64 i) := fun κ => l1_a hg' rfl
   have l2 : ∀ κ : V → Prop, pw.l1 (.p r 2) h' κ = κ (.b p.2) := fun κ => l1_a hg' rfl
   simp only [nl_p, fa_p, Nat.zero_add, l2, nt_b]
   have fin : (p.2 = false → trimS nmS (s.drop i) = s.drop i ∨ (i = a ∧ badN (nameS p.1) = true)) → F92_8 pw (mkX Tryz.prog) (Ok Tryz.prog n) (fun v h => Bd h → K v h) (.p r 0) (.i .i64 a) h' := by
    intro hf
    unfold F92_8
    simp only [nl_p, fa_p, Nat.zero_add, l2]
    have badK : (nmP p).2 = true → pw.s1 (.p r 2) (.b true) h' fun h46 => Bd h46 → K (.s []) h46 := by
     intro hb
     refine s1_a hg' (by simp) rfl fun h2' hg2 f2 => ?_
     exact fun _ => k h2' [] ⟨i, g, ty, by rw [hg2, hb]; rfl, h2, fun e => by rw [hb] at e; cases e⟩ (f.trans f2) (fun e => by rw [hb] at e; cases e) (Nat.zero_le _)
    cases hb : p.2 with
    | true =>
     simp only [g0_t, pk_t, cd_t]
     exact badK (by show (p.2 || _) = true; rw [hb]; rfl)
    | false =>
     obtain ⟨hd, hgd⟩ := hp hb
     obtain ⟨t1, t2⟩ := ht hb
     simp only [g0_f, nl_p, fa_p, Nat.zero_add, l1]
     rw [eq_i]
     have hnm : trimS nmS (s.drop i) = s.drop i → nameS p.1 = (s.drop a).take (i - a) := fun e => by
      unfold nameS
      rw [← hd, ← t1, e, List.length_drop, List.length_drop]
      congr 1; omega
     by_cases hia : i = a
     ·rw [decide_eq_true (show (i : Int) = a by omega)]
      simp only [pk_f, cd_t]
      refine badK ?_
      show (p.2 || badN (nameS p.1)) = true
      rcases hf hb with e | ⟨_, e⟩
      ·rw [hnm e, hia, Nat.sub_self, List.take_zero]
       simp [badN]
      ·rw [e, Bool.or_true]
     ·rw [decide_eq_false (show ¬ (i : Int) = a by omega)]
      simp only [pk_f, cd_f]
      have hfe : trimS nmS (s.drop i) = s.drop i := (hf hb).resolve_right fun e => hia e.1
      have hnm := hnm hfe
      have htr : trimS nmS (s.drop a) = s.drop i := by rw [← t1]; exact hfe
      unfold F92_11
      simp only [nl_p, fa_p, Nat.zero_add, l0, l1]
      rw [sc_s2 tt9 rfl h1 h2]
      obtain ⟨c, hc, hfc⟩ := t2 (by omega)
      have hok : badN (nameS p.1) = false := by
       rw [hnm, drop_at hc, show i - a = (i - a - 1) + 1 by omega, List.take_succ_cons]
       show decide (0 ≤ Lib.indexByte mrS c) = false
       have hh := nm_c c
       rw [hh.2.1]
       have h3 := hh.2.2
       rw [hfc, Bool.true_and] at h3
       exact h3
      refine fun _ => k h' _ ⟨i, g, ty, ?_, h2, fun _ => ⟨?_, hgd⟩⟩ f (fun _ => hnm.symm) (by rw [List.length_take, List.length_drop]; omega)
      ·rw [hg']
       have : (nmP p).2 = p.2 := by show (p.2 || badN (nameS p.1)) = p.2; rw [hok, Bool.or_false]
       rw [this]
      ·show s.drop i = trimS nmS p.1
       rw [← hd, htr]
   cases hb : p.2 with
   | true =>
    simp only [Bool.not_true, g1_f, pk_f, cd_f]
    exact fin fun e => by rw [hb] at e; cases e
   | false =>
    obtain ⟨t1, t2⟩ := ht hb
    simp only [Bool.not_false, g1_t, nl_p, fa_p, Nat.zero_add, l0, l1, lgs]
    rw [lt_i]
    by_cases hlt : i < s.length
    ·rw [decide_eq_true (show (i : Int) < s.length by omega)]
     have hs := List.getElem?_eq_getElem hlt
     generalize s[i] = c at hs
     have ix : ∀ κ : V → Prop, pw.ix (mkX Tryz.prog) 9 (.s s) (.i .i64 i) κ = κ (.i .u8 c.toNat) := fun κ => ix_s tt9 rfl hs
     simp only [pk_t, cd_t]
     unfold F92_51
     simp only [nl_p, fa_p, Nat.zero_add, l0, l1, ix]
     refine fsK (t := 0) ?_
     have hdr := drop_at hs
     have hh := nm_c c
     have go1 : inS nmS c = true → (a < i + 1 → ∃ c, s[a]? = some c ∧ fsC c.toNat = true) → F92_99 pw (mkX Tryz.prog) (Ok Tryz.prog n) (fun v h => Bd h → K v h) (F92_48 pw (mkX Tryz.prog) (Ok Tryz.prog n) (fun v h => Bd h → K v h) m) (.p r 0) (.i .i64 a) h' := by
      intro hi hex
      unfold F92_99
      simp only [nl_p, fa_p, Nat.zero_add, l1]
      rw [ad_64 (by omega), show (i : Int) + 1 = ((i + 1 : Nat) : Int) by omega]
      refine s1_a hg' (by simp) rfl fun h2' hg2 f2 => ?_
      refine ih (i + 1) h2' (by omega) (by omega) (by omega) hg2 (f.trans f2) (fun e => by rw [hb] at e; cases e) fun _ => ⟨?_, hex⟩
      rw [← t1, hdr, trimS_cons, if_pos hi]
     rw [nt_b]
     cases hf : fsC c.toNat with
     | true =>
      simp only [Bool.not_true, g1_f, pk_f, cd_f]
      refine go1 (by rw [hh.1, hf]; rfl) fun _ => ?_
      by_cases hia : i = a
      ·subst hia; exact ⟨c, hs, hf⟩
      ·exact t2 (by omega)
     | false =>
      simp only [Bool.not_false, g1_t, nl_p, fa_p, Nat.zero_add, l1]
      rw [eq_i]
      by_cases hia : i = a
      ·rw [decide_eq_true (show (i : Int) = a by omega)]
       simp only [g0_t, g0_u, g1_u, pk_t, cd_t]
       refine fin fun _ => ?_
       cases hm : mrC c.toNat with
       | false =>
        left
        rw [hdr, trimS_cons, hh.1, hf, hm, if_neg (by decide)]
       | true =>
        refine .inr ⟨hia, ?_⟩
        obtain ⟨hd, _⟩ := hp hb
        rw [← hd, ← hia, hdr, nameS_cons, hh.1, hf, hm, if_pos (by decide)]
        show decide (0 ≤ Lib.indexByte mrS c) = true
        rw [hh.2.1, hm]
      ·rw [decide_eq_false (show ¬ (i : Int) = a by omega)]
       have m1 : decide ((48 : Int) ≤ (c.toNat : Int)) = decide (48 ≤ c.toNat) := decide_eq_decide.2 (by omega)
       have m2 : decide ((c.toNat : Int) ≤ 57) = decide (c.toNat ≤ 57) := decide_eq_decide.2 (by omega)
       have m3 : decide ((c.toNat : Int) = 45) = decide (c.toNat = 45) := decide_eq_decide.2 (by omega)
       have m4 : decide ((c.toNat : Int) = 46) = decide (c.toNat = 46) := decide_eq_decide.2 (by omega)
       have hfin : mrC c.toNat = false → F92_8 pw (mkX Tryz.prog) (Ok Tryz.prog n) (fun v h => Bd h → K v h) (.p r 0) (.i .i64 a) h' := fun hm => fin fun _ => .inl (by rw [hdr, trimS_cons, hh.1, hf, hm, if_neg (by decide)])
       have hgo : mrC c.toNat = true → F92_99 pw (mkX Tryz.prog) (Ok Tryz.prog n) (fun v h => Bd h → K v h) (F92_48 pw (mkX Tryz.prog) (Ok Tryz.prog n) (fun v h => Bd h → K v h) m) (.p r 0) (.i .i64 a) h' := fun hm => go1 (by rw [hh.1, hm, Bool.or_true]) fun _ => t2 (by omega)
       unfold mrC at hfin hgo
       cases q1 : decide (48 ≤ c.toNat) <;> cases q2 : decide (c.toNat ≤ 57) <;> cases q3 : decide (c.toNat = 45) <;> cases q4 : decide (c.toNat = 46) <;> rw [q1, q2, q3, q4] at hfin hgo <;> simp only [ge_i, le_i, eq_i, m1, m2, m3, m4, q1, q2, q3, q4, g0_t, g0_f, g1_t, g1_f, g0_u, g1_u, pk_t, pk_f, nt_b, Bool.not_true, Bool.not_false, cd_t, cd_f] <;> first | exact hfin rfl | exact hgo rfl
    ·rw [decide_eq_false (show ¬ (i : Int) < s.length by omega)]
     simp only [pk_t, cd_f]
     refine fin fun _ => .inl ?_
     rw [List.drop_eq_nil_of_le (by omega)]; rfl
 exact go 100000 a h (by omega) (Nat.le_refl _) ha hg (But.refl _ _) (fun _ => rfl) fun _ => ⟨rfl, fun h => absurd h (Nat.lt_irrefl _)⟩
theorem plain' {n : Nat} (hn : 1 ≤ n) {l : Bs} (hl : l.length < 50000) {h : H} {K : V → H → Prop} (k : K (.s (plainS l)) h) : Ok Tryz.prog n 93 [.s l] h K := by
 obtain ⟨n, rfl⟩ := Nat.exists_eq_add_of_le' hn
 refine Ok.bd (K93 fun hbd => ?_)
 unfold F93
 rw [lg_s tt9 rfl, sb_64 (by omega)]
 have go : ∀ (m i : Nat), i < m → i ≤ l.length → lastB l 58 i = lastB l 58 l.length → F93_11 pw (mkX Tryz.prog) (Ok Tryz.prog n) (fun v h => Bd h → K v h) m (.s l) (.i .i64 ((i : Int) - 1)) h := by
  intro m
  induction m with
  | zero => intro i hm; omega
  | succ m ih =>
   intro i hm hi hL
   rw [S93_11, ge_i]
   cases i with
   | zero =>
    rw [decide_eq_false (by decide), cd_f]
    unfold F93_3
    rw [lastB] at hL
    unfold plainS at k
    rw [← hL] at k
    exact fun _ => k
   | succ i =>
    rw [decide_eq_true (show (0 : Int) ≤ ((i + 1 : Nat) : Int) - 1 by omega), cd_t]
    have hs := List.getElem?_eq_getElem (show i < l.length by omega)
    generalize l[i] = c at hs
    unfold F93_14
    rw [show ((i + 1 : Nat) : Int) - 1 = (i : Int) by omega, ix_s tt9 rfl hs, eq_i]
    rw [lastB, hs] at hL
    by_cases hc : c = 58
    ·subst hc
     rw [if_pos rfl] at hL
     rw [show decide (((58 : UInt8).toNat : Int) = 58) = true from rfl, cd_t, ad_64 (by omega), show (i : Int) + 1 = ((i + 1 : Nat) : Int) by omega, sc_s1 tt9 rfl (by omega)]
     unfold plainS at k
     rw [← hL, show ((i : Int) + 1).toNat = i + 1 by omega] at k
     exact fun _ => k
    ·rw [if_neg (fun e => hc (Option.some.inj e))] at hL
     rw [decide_eq_false (fun e => hc ((u8_eq (n := 58) (by decide)).2 (by omega))), cd_f]
     unfold F93_17
     rw [sb_64 (by omega)]
     exact ih i (by omega) (by omega) hL
 exact go 100000 l.length (by omega) (Nat.le_refl _) rfl
theorem nameS_in {c : UInt8} : ∀ {s : Bs}, c ∈ nameS s → inS nmS c = true
 | [], h => by simp [nameS] at h
 | a :: l, h => by
  rw [nameS_cons] at h
  cases e : inS nmS a with
  | true =>
   rw [e, if_pos rfl] at h
   rcases List.mem_cons.1 h with rfl | h
   ·exact e
   ·exact nameS_in h
  | false => rw [e, if_neg (by decide)] at h; cases h
theorem nameS_app2 : ∀ {nm r : Bs}, (∀ c ∈ nm, inS nmS c = true) → nameS (nm ++ r) = nm ++ nameS r
 | [], r, _ => rfl
 | a :: l, r, h => by
  rw [List.cons_append, nameS_cons, h a (List.mem_cons_self ..), if_pos rfl, nameS_app2 fun c hc => h c (List.mem_cons_of_mem _ hc)]; rfl
theorem nm_blk : (List.range 256).all (fun n => !(inS nmS (UInt8.ofNat n)) || (!(inS blk (UInt8.ofNat n)) && !(n == 62))) = true := by decide +kernel
theorem nm_no {c : UInt8} (h : inS nmS c = true) : inS blk c = false ∧ c ≠ 62 := by
 have := List.all_eq_true.1 nm_blk c.toNat (List.mem_range.2 c.toNat_lt)
 rw [show UInt8.ofNat c.toNat = c by simp, h] at this
 simp only [Bool.not_true, Bool.false_or, Bool.and_eq_true, Bool.not_eq_true', beq_eq_false_iff_ne] at this
 exact ⟨this.1, fun e => this.2 (by rw [e]; rfl)⟩
theorem wtP_bad {t : Bs} {p : PS} (h : p.2 = true) : (wtP t p).2 = true := by unfold wtP; rw [h]; rfl
theorem close_a {nm : Bs} {p : PS} (h0 : p.2 = false) (h1 : (nmP p).2 = false) (h2 : nameS p.1 = nm) : wtP nm p = nmP p := by
 have ha := nameS_app p.1
 rw [h2] at ha
 have hp : hasP nm p.1 = true := by
  unfold hasP
  rw [← ha]
  simp
 have hd : p.1.drop nm.length = trimS nmS p.1 := by
  conv => lhs; rw [← ha]
  simp
 unfold nmP at h1 ⊢
 unfold wtP
 rw [if_pos ⟨hp, h0⟩, hd, hp]
 simp only at h1
 rw [h1, h0]; rfl
theorem close_b {nm : Bs} {p : PS} (hn : ∀ c ∈ nm, inS nmS c = true) (hb : badN nm = false) (h0 : p.2 = false) (h : ¬ ((nmP p).2 = false ∧ nameS p.1 = nm)) : (wtP [62] (blP (wtP nm p))).2 = true := by
 cases hp : hasP nm p.1 with
 | false =>
  refine wtP_bad ?_
  show (wtP nm p).2 = true
  unfold wtP
  rw [hp, h0]; rfl
 | true =>
  have hr : p.1 = nm ++ p.1.drop nm.length := by
   have : p.1.take nm.length = nm := eq_of_beq hp
   conv => lhs; rw [← List.take_append_drop nm.length p.1, this]
  generalize p.1.drop nm.length = r at hr
  have hnm : nameS p.1 = nm ++ nameS r := by rw [hr]; exact nameS_app2 hn
  have e1 : wtP nm p = (r, false) := by
   unfold wtP
   rw [if_pos ⟨hp, h0⟩, hp, h0, hr]
   simp
  rw [e1]
  cases hnr : nameS r with
  | nil =>
   rw [hnr, List.append_nil] at hnm
   exact absurd ⟨by unfold nmP; simp only; rw [hnm, hb, h0]; rfl, hnm⟩ h
  | cons c l =>
   obtain ⟨c', r', rfl⟩ : ∃ c' r', r = c' :: r' := by
    cases r with
    | nil => simp [nameS] at hnr
    | cons c' r' => exact ⟨c', r', rfl⟩
   have hin : inS nmS c' = true := by
    rw [nameS_cons] at hnr
    cases e : inS nmS c' with
    | true => rfl
    | false => rw [e, if_neg (by decide)] at hnr; cases hnr
   obtain ⟨b1, b2⟩ := nm_no hin
   have e2 : blP (c' :: r', false) = (c' :: r', false) := by
    unfold blP
    simp only
    rw [trimS_cons, b1, if_neg (by decide)]
   rw [e2]
   unfold wtP
   have : hasP [62] (c' :: r') = false := by
    unfold hasP
    simp [b2]
   simp only [this, Bool.not_false, Bool.or_true]
theorem Rps.bad {h : H} {r : Nat} {s : Bs} {p q : PS} {d e : Int} (P : Rps h r s p d) (h1 : p.2 = true) (h2 : q.2 = true) : Rps h r s q e := by
 obtain ⟨a, g, ty, hg, ha, _⟩ := P
 exact ⟨a, g, ty, by rw [hg, h1, h2], ha, fun e => by rw [h2] at e; cases e⟩
end Go.Proofs.YtbkhielalbbopaaGreatDoor.Wb

set_option maxRecDepth 100000
namespace Go.Am.Xm
def enc4 (c : Nat) : List Nat := if c < 128 then [c] else if c < 2048 then [192 + c / 64, 128 + c % 64] else if c < 65536 then [224 + c / 4096, 128 + c / 64 % 64, 128 + c % 64] else [240 + c / 262144, 128 + c / 4096 % 64, 128 + c / 64 % 64, 128 + c % 64]
theorem enc4_eq {n : Nat} (h : mayN n = true) : (Utf8.encode (n : Int)).data.toList = (enc4 n).map UInt8.ofNat := by
 have hv : Utf8.valid (n : Int) = true := by
  rw [Go.Proofs.YtbkhielalbbopaaGreatDoor.Wb.mayN_eq] at h
  unfold Go.Proofs.YtbkhielalbbopaaGreatDoor.Wb.valC Go.Proofs.YtbkhielalbbopaaGreatDoor.Wb.mayC at h
  unfold Utf8.valid
  simp only [Bool.or_eq_true, Bool.and_eq_true, decide_eq_true_eq, Bool.not_eq_true', decide_eq_false_iff_not] at h ⊢
  omega
 unfold Utf8.encode enc4
 simp only [hv, if_true, Int.toNat_natCast]
 by_cases h1 : n < 128
 ·rw [if_pos h1, if_pos h1]; rfl
 rw [if_neg h1, if_neg h1]
 by_cases h2 : n < 2048
 ·rw [if_pos h2, if_pos h2]; rfl
 rw [if_neg h2, if_neg h2]
 by_cases h3 : n < 65536
 ·rw [if_pos h3, if_pos h3]; rfl
 rw [if_neg h3, if_neg h3]; rfl
end Go.Am.Xm
namespace Go.Proofs.YtbkhielalbbopaaGreatDoor.Wb
open Go Go.Am Go.Am.Xm
theorem rmay_ok {n : Nat} (hn : 1 ≤ n) {c : Nat} {h : H} {K : V → H → Prop} (k : K (.b (mayN c)) h) : Ok Tryz.prog n 89 [.i .i64 c] h K := by
 obtain ⟨n, rfl⟩ := Nat.exists_eq_add_of_le' hn
 refine Ok.bd (K89 fun hbd => ?_)
 unfold F89
 have e : mayN c = ((decide ((32 : Int) ≤ c) && decide ((c : Int) ≤ 1114111) && (decide ((c : Int) < 55296) || decide ((57343 : Int) < c))) || decide ((c : Int) = 9) || decide ((c : Int) = 10) || decide ((c : Int) = 13)) := by
  have e1 : Nat.ble 32 c = decide ((32 : Int) ≤ c) := by rw [Bool.eq_iff_iff]; simp; omega
  have e2 : Nat.ble c 1114111 = decide ((c : Int) ≤ 1114111) := by rw [Bool.eq_iff_iff]; simp; omega
  have e3 : Nat.blt c 55296 = decide ((c : Int) < 55296) := by rw [Bool.eq_iff_iff]; simp [Nat.blt]; omega
  have e4 : Nat.blt 57343 c = decide ((57343 : Int) < c) := by rw [Bool.eq_iff_iff]; simp [Nat.blt]; omega
  have e5 : ∀ k : Nat, Nat.beq c k = decide ((c : Int) = (k : Int)) := fun k => by rw [Bool.eq_iff_iff]; simp; omega
  unfold mayN
  rw [e1, e2, e3, e4, e5, e5, e5]
  rfl
 rw [e] at k
 revert k
 cases e1 : decide ((32 : Int) ≤ c) <;> cases e2 : decide ((c : Int) ≤ 1114111) <;> cases e3 : decide ((c : Int) < 55296) <;> cases e4 : decide ((57343 : Int) < c) <;> cases e5 : decide ((c : Int) = 9) <;> cases e6 : decide ((c : Int) = 10) <;> cases e7 : decide ((c : Int) = 13) <;> intro k <;> simp only [ge_i, le_i, lt_i, gt_i, eq_i, e1, e2, e3, e4, e5, e6, e7, g0_t, g0_f, g1_t, g1_f, pk_t, pk_f] <;> exact fun _ => k
theorem cs_bs {r : Nat} {bs : Bs} {h : H} {κ : V → Prop} (hg : h.mem.get r = some (.c (u8s bs) 5 true)) : pw.cs (mkX Tryz.prog) 60 9 (.sl r 0 bs.length bs.length false) h κ = κ (.s bs) := by
 have hs : sub (u8s bs) 0 bs.length = some (u8s bs) := by
  rw [sub_mk (by simp [u8s]), List.drop_zero, List.take_of_length_le (by simp [u8s])]
 simp only [pw, rdVw, ti_some _ tt60, ti_some _ tt9, ti_some _ tt5, hg, hs, bytesOf_u8s, oP]
theorem u8_i (z : Nat) (h : z < 256) : V.i .u8 (z : Int) = V.i .u8 ((UInt8.ofNat z).toNat : Int) := by
 rw [UInt8.toNat_ofNat', Nat.mod_eq_of_lt h]
theorem mk_bs {h : H} {K : V → H → Prop} {zs : List Nat} {ps : List (Nat × V)} {n : Nat} (hz : ∀ z ∈ zs, z < 256) (hn : n = zs.length) (hl : zs.length ≤ 4) (hp : placesArr 1 ps = some ps) (hf : fillA (repl n [V.i .u8 0]) ps = some (zs.map fun (z : Nat) => V.i .u8 (z : Int)))
  (k : ∀ h', But h h' none → K (.s (zs.map UInt8.ofNat)) h') : pw.bs (mkX Tryz.prog) 60 n ps h fun v h1 => pw.cs (mkX Tryz.prog) 60 9 v h1 fun w => K w h1 := by
 have e : (zs.map fun (z : Nat) => V.i .u8 (z : Int)) = u8s (zs.map UInt8.ofNat) := by
  unfold u8s
  rw [List.map_map]
  exact List.map_congr_left fun z hm => u8_i z (hz z hm)
 subst hn
 refine bs_a tt60 rfl tt5 (by show zs.length * 1 ≤ _; omega) hp hf fun r h1 hg f _ _ => ?_
 rw [e] at hg
 have hb := cs_bs (h := h1) (bs := zs.map UInt8.ofNat) (κ := fun w => K w h1) hg
 rw [List.length_map] at hb
 rw [hb]
 exact k h1 f
theorem put_ok {n : Nat} (hn : 1 ≤ n) {c : Nat} (hc : c ≤ 1114111) {h : H} {K : V → H → Prop} (k : ∀ h', But h h' none → K (.s ((enc4 c).map UInt8.ofNat)) h') : Ok Tryz.prog n 144 [.i .i64 c] h K := by
 obtain ⟨n, rfl⟩ := Nat.exists_eq_add_of_le' hn
 have g : c < 128 ∨ (¬ c < 128 ∧ c < 2048) ∨ (¬ c < 128 ∧ ¬ c < 2048 ∧ c < 65536) ∨ (¬ c < 128 ∧ ¬ c < 2048 ∧ ¬ c < 65536) := by omega
 refine Ok.bd (K144 fun hbd => ?_)
 unfold F144
 unfold enc4 at k
 simp only [lt_i]
 have s6 : ∀ κ, pw.sr (mkX Tryz.prog) 3 (.i .i64 c) (.i .u64 6) κ = κ (.i .i64 ((c / 64 : Nat) : Int)) := fun κ => by
  rw [show (6 : Int) = ((6 : Nat) : Int) from rfl, sr_k 6 (by decide)]; congr 2
 have s12 : ∀ κ, pw.sr (mkX Tryz.prog) 3 (.i .i64 c) (.i .u64 12) κ = κ (.i .i64 ((c / 4096 : Nat) : Int)) := fun κ => by
  rw [show (12 : Int) = ((12 : Nat) : Int) from rfl, sr_k 12 (by decide)]; congr 2
 have s18 : ∀ κ, pw.sr (mkX Tryz.prog) 3 (.i .i64 c) (.i .u64 18) κ = κ (.i .i64 ((c / 262144 : Nat) : Int)) := fun κ => by
  rw [show (18 : Int) = ((18 : Nat) : Int) from rfl, sr_k 18 (by decide)]; congr 2
 have m63 : ∀ (m : Nat) κ, pw.an (mkX Tryz.prog) 3 (.i .i64 m) (.i .i64 63) κ = κ (.i .i64 ((m % 64 : Nat) : Int)) := fun m κ => by
  rw [an_63]; congr 2
 have ad : ∀ (M : Int) (m z : Nat) κ, M = (m : Int) → m < 1000 → z < 10000000 → pw.ad (mkX Tryz.prog) 3 (.i .i64 M) (.i .i64 (z : Int)) κ = κ (.i .i64 ((m + z : Nat) : Int)) := fun M m z κ h0 h1 h2 => by
  subst h0; rw [ad_64 (by omega)]; congr 2
 have c8 : ∀ (m : Nat) κ, m < 256 → pw.ci (mkX Tryz.prog) 3 5 .u8 (.i .i64 (m : Int)) κ = κ (.i .u8 (m : Int)) := fun m κ h1 => by
  rw [ci_u8 (by omega)]
 have d1 := decide_eq_false (p := (c : Int) < 128)
 have d2 := decide_eq_false (p := (c : Int) < 2048)
 have d3 := decide_eq_false (p := (c : Int) < 65536)
 rcases g with h1 | ⟨h1, h2⟩ | ⟨h1, h2, h3⟩ | ⟨h1, h2, h3⟩
 ·rw [decide_eq_true (show (c : Int) < 128 by omega), cd_t, c8 _ _ (by omega)]
  rw [if_pos h1] at k
  exact mk_bs (zs := [c]) (by simp; omega) rfl (by simp) rfl rfl fun h' f _ => k h' f
 ·rw [d1 (by omega), cd_f, decide_eq_true (show (c : Int) < 2048 by omega), cd_t, s6, ad 192 192 _ _ rfl (by omega) (by omega), c8 _ _ (by omega), m63, ad 128 128 _ _ rfl (by omega) (by omega), c8 _ _ (by omega)]
  rw [if_neg h1, if_pos h2] at k
  exact mk_bs (zs := [192 + c / 64, 128 + c % 64]) (by simp; omega) rfl (by simp) rfl rfl fun h' f _ => k h' f
 ·rw [d1 (by omega), cd_f, d2 (by omega), cd_f, decide_eq_true (show (c : Int) < 65536 by omega), cd_t, s12, ad 224 224 _ _ rfl (by omega) (by omega), c8 _ _ (by omega), s6, m63, ad 128 128 _ _ rfl (by omega) (by omega), c8 _ _ (by omega), m63, ad 128 128 _ _ rfl (by omega) (by omega), c8 _ _ (by omega)]
  rw [if_neg h1, if_neg h2, if_pos h3] at k
  exact mk_bs (zs := [224 + c / 4096, 128 + c / 64 % 64, 128 + c % 64]) (by simp; omega) rfl (by simp) rfl rfl fun h' f _ => k h' f
 ·rw [d1 (by omega), cd_f, d2 (by omega), cd_f, d3 (by omega), cd_f]
  rw [if_neg h1, if_neg h2, if_neg h3] at k
  unfold F144_3
  rw [s18, ad 240 240 _ _ rfl (by omega) (by omega), c8 _ _ (by omega), s12, m63, ad 128 128 _ _ rfl (by omega) (by omega), c8 _ _ (by omega), s6, m63, ad 128 128 _ _ rfl (by omega) (by omega), c8 _ _ (by omega), m63, ad 128 128 _ _ rfl (by omega) (by omega), c8 _ _ (by omega)]
  exact mk_bs (zs := [240 + c / 262144, 128 + c / 4096 % 64, 128 + c / 64 % 64, 128 + c % 64]) (by simp; omega) rfl (by simp) rfl rfl fun h' f _ => k h' f
end Go.Proofs.YtbkhielalbbopaaGreatDoor.Wb
