/- The parser's trees: what is read, as a plain machine; trees in memory. -/
import Derived.Test.YtbkhielalbbopaaGreatDoorZq2
import Derived.Test.YtbkhielalbbopaaGreatDoorM5
set_option linter.unusedSimpArgs false
set_option linter.unusedVariables false
set_option linter.unusedSectionVars false
set_option linter.unnecessarySimpa false
set_option maxRecDepth 100000
namespace Go.Proofs.YtbkhielalbbopaaGreatDoor.Wb
open Go Go.Am Go.Am.Xm

/-- A tree. -/
inductive XT where
  | node (name text : Bs) (kids : List XT)

abbrev Te := Bs × Bs × V
def encT (e : Te) : List V := [.s e.1, .s e.2.1, e.2.2]
theorem encT_len (e : Te) : (encT e).length = 3 := rfl

mutual
/-- A tree in memory: its kids' blocks are of this sort. -/
def TrA (h : H) (N : Nat → Prop) : XT → Te → Prop
  | .node a b ks, e => e.1 = a ∧ e.2.1 = b ∧ ∃ es, VecE h e.2.2 63 3 encT es ∧ (∀ q, vblk e.2.2 = some q → N q ∧ q < h.next) ∧ TrsA h N ks es
def TrsA (h : H) (N : Nat → Prop) : List XT → List Te → Prop
  | [], es => es = []
  | t :: ts, es => ∃ e es', es = e :: es' ∧ TrA h N t e ∧ TrsA h N ts es'
end

/-- Nothing of these blocks changed. -/
def KeepN (h h' : H) (N : Nat → Prop) : Prop := h.next ≤ h'.next ∧ ∀ q, q < h.next → N q → h'.mem.get q = h.mem.get q
theorem vece_keepN {h h' : H} {N : Nat → Prop} {v : V} {el sz : Nat} {α : Type} {enc : α → List V} {es : List α} (hv : VecE h v el sz enc es) (hn : ∀ q, vblk v = some q → N q ∧ q < h.next) (k : KeepN h h' N) : VecE h' v el sz enc es := by
  obtain ⟨h1, h2⟩ := hv
  refine ⟨h1, ?_⟩
  rcases h2 with h2 | ⟨r, cap, e, l, rfl, h3, h4⟩
  · exact .inl h2
  · have := hn r rfl
    exact .inr ⟨r, cap, e, l, rfl, by rw [k.2 r this.2 this.1]; exact h3, h4⟩
mutual
theorem TrA.keep {h h' : H} {N M : Nat → Prop} (k : KeepN h h' N) (hM : ∀ q, q < h.next → N q → M q) : ∀ {t : XT} {e : Te}, TrA h N t e → TrA h' M t e
  | .node a b ks, e, ⟨h1, h2, es, h3, h4, h5⟩ => ⟨h1, h2, es, vece_keepN h3 h4 k, fun q hq => ⟨hM q (h4 q hq).2 (h4 q hq).1, Nat.lt_of_lt_of_le (h4 q hq).2 k.1⟩, h5.keep k hM⟩
theorem TrsA.keep {h h' : H} {N M : Nat → Prop} (k : KeepN h h' N) (hM : ∀ q, q < h.next → N q → M q) : ∀ {ts : List XT} {es : List Te}, TrsA h N ts es → TrsA h' M ts es
  | [], _, h1 => h1
  | _ :: _, _, ⟨e, es', h1, h2, h3⟩ => ⟨e, es', h1, h2.keep k hM, h3.keep k hM⟩
end
theorem TrsA.app {h : H} {N : Nat → Prop} {t : XT} {e : Te} (ht : TrA h N t e) : ∀ {ts : List XT} {es : List Te}, TrsA h N ts es → TrsA h N (ts ++ [t]) (es ++ [e])
  | [], es, h1 => by
    have : es = [] := h1
    subst this
    exact ⟨e, [], rfl, ht, rfl⟩
  | _ :: _, _, ⟨e1, es', rfl, h2, h3⟩ => ⟨e1, es' ++ [e], rfl, h2, h3.app ht⟩
theorem TrsA.len {h : H} {N : Nat → Prop} : ∀ {ts : List XT} {es : List Te}, TrsA h N ts es → es.length = ts.length
  | [], es, h1 => by
    have : es = [] := h1
    subst this; rfl
  | _ :: _, _, ⟨_, es', rfl, _, h3⟩ => by rw [List.length_cons, List.length_cons, h3.len]

/-! ### What is read -/
/-- Up to two bytes, where the first one stands nowhere ahead of them. -/
def toD (x y : UInt8) (l : Bs) : Option Bs := match cut1 x l with
  | some (_, b) => match b with
    | z :: b' => if z = y then some b' else none
    | [] => none
  | none => none
theorem toD_some {x y : UInt8} {l b : Bs} (h : toD x y l = some b) : ∃ a, l = a ++ x :: y :: b ∧ x ∉ a := by
  unfold toD at h
  split at h
  · rename_i a b' e
    split at h
    · rename_i z b''
      split at h
      · rename_i hz
        cases h
        subst hz
        exact ⟨a, (cut1_some e).1, (cut1_some e).2⟩
      · cases h
    · cases h
  · cases h
theorem toD_mk {x y : UInt8} {a b : Bs} (h : x ∉ a) : toD x y (a ++ x :: y :: b) = some b := by
  unfold toD
  rw [cut1_mk h]
  simp only [if_true]
def rmk : Bs := [60, 33, 45, 45]
/-- A remark. -/
def remP (p : PS) : Option (Bool × PS) := if tkB rmk p = true then match toD 45 45 (p.1.drop 4) with
  | some b => some (true, wtP [62] (b, false))
  | none => none
  else some (false, p)
def treeL (rc : PS → Int → Option (XT × PS × Int)) (nm : Bs) : Nat → Bs → List XT → PS → Int → Option ((Bs × List XT) × PS × Int)
  | 0, _, _, _, _ => none
  | m + 1, tx, ks, p, d => if p.2 = true then some ((tx, ks), p, d) else match cut1 60 p.1 with
    | none => some ((tx, ks), (p.1, true), d)
    | some (hd, _) => match remP (p.1.drop hd.length, badT hd) with
      | none => none
      | some (true, p3) => treeL rc nm m (tx ++ outT hd) ks p3 d
      | some (false, p3) => if tkB [60, 47] p3 = true then some ((tx ++ outT hd, ks), wtP [62] (blP (wtP nm (tkP [60, 47] p3))), d)
        else match rc (wtP [60] p3) d with
          | none => none
          | some (t, p5, d5) => treeL rc nm m (tx ++ outT hd) (ks ++ [t]) p5 d5
/-- A tree so deep. -/
def treeP : Nat → Int → PS → Int → Option (XT × PS × Int)
  | 0, _, _, _ => none
  | k + 1, dp, p, d => if (openP p).1 = true then some (.node (plainS (nameS p.1)) [] [], (openP p).2, max d dp)
    else match treeL (fun q e => treeP k (dp + 1) q e) (nameS p.1) 100000 [] [] (openP p).2 (max d dp) with
      | none => none
      | some ((tx, ks), p2, d2) => some (.node (plainS (nameS p.1)) tx ks, p2, d2)

theorem opL_le : ∀ (m : Nat) (p : PS), (opL m p).2.1.length ≤ p.1.length
  | 0, p => Nat.le_refl _
  | m + 1, p => by
    have l1 := blP_le p
    have l2 := tkP_le [47, 62] (blP p)
    have l3 := tkP_le [62] (tkP [47, 62] (blP p))
    have l4 := wordP_le (tkP [62] (tkP [47, 62] (blP p)))
    have l5 := opL_le m (wordP (tkP [62] (tkP [47, 62] (blP p))))
    have l6 := opL_le m ((tkP [62] (tkP [47, 62] (blP p))).1, true)
    rw [opL]
    split
    · exact Nat.le_refl _
    split
    · simp only; omega
    split
    · simp only; omega
    split
    · omega
    · simp only at l6; omega
theorem openP_le (p : PS) : (openP p).2.1.length ≤ p.1.length := Nat.le_trans (opL_le _ _) (nmP_le p)
theorem remP_le {p q : PS} {b : Bool} (h : remP p = some (b, q)) : q.1.length ≤ p.1.length := by
  unfold remP at h
  split at h
  · split at h
    · rename_i b' e
      cases h
      obtain ⟨a, h1, _⟩ := toD_some e
      have := wtP_le [62] (b', false)
      have h2 := congrArg List.length h1
      rw [List.length_drop] at h2
      simp only [List.length_append, List.length_cons] at h2 this
      omega
    · cases h
  · cases h
    exact Nat.le_refl _
theorem treeL_le {rc : PS → Int → Option (XT × PS × Int)} {nm : Bs} (hr : ∀ {p d t q e}, rc p d = some (t, q, e) → q.1.length ≤ p.1.length) :
    ∀ (m : Nat) {tx ks p d o q e}, treeL rc nm m tx ks p d = some (o, q, e) → q.1.length ≤ p.1.length
  | 0, _, _, _, _, _, _, _, h => by cases h
  | m + 1, tx, ks, p, d, o, q, e, h => by
    rw [treeL] at h
    split at h
    · cases h; exact Nat.le_refl _
    split at h
    · cases h; exact Nat.le_refl _
    · rename_i hd tl hc
      split at h
      · cases h
      · rename_i p3 e3
        have l1 := remP_le e3
        have l2 := treeL_le hr m h
        simp only [List.length_drop] at l1
        omega
      · rename_i p3 e3
        have l1 := remP_le e3
        simp only [List.length_drop] at l1
        split at h
        · cases h
          have a1 := tkP_le [60, 47] p3
          have a2 := wtP_le nm (tkP [60, 47] p3)
          have a3 := blP_le (wtP nm (tkP [60, 47] p3))
          have a4 := wtP_le [62] (blP (wtP nm (tkP [60, 47] p3)))
          omega
        · split at h
          · cases h
          · rename_i t p5 d5 e5
            have a1 := hr e5
            have a2 := treeL_le hr m h
            have a3 := wtP_le [60] p3
            omega
theorem treeP_le : ∀ (k : Nat) {dp : Int} {p d t q e}, treeP k dp p d = some (t, q, e) → q.1.length ≤ p.1.length
  | 0, _, _, _, _, _, _, h => by cases h
  | k + 1, dp, p, d, t, q, e, h => by
    have l0 := openP_le p
    rw [treeP] at h
    split at h
    · cases h; exact l0
    · split at h
      · cases h
      · rename_i e1
        cases h
        have := treeL_le (fun h => treeP_le k h) 100000 e1
        omega

theorem unE_len : ∀ (n : Nat) {l o : Bs}, l.length ≤ n → unE l = some o → o.length ≤ 4 * l.length
  | n, [], o, _, h => by rw [unE_nil] at h; cases h; simp
  | 0, _ :: _, _, hl, _ => by simp at hl
  | n + 1, a :: l, o, hl, h => by
    simp only [List.length_cons] at hl ⊢
    by_cases ha : a = 38
    · subst ha
      cases e : cut1 59 l with
      | none => rw [unE_amp_none e] at h; cases h
      | some p =>
        obtain ⟨nm, r⟩ := p
        have hc := cut1_len e
        rw [unE_amp e] at h
        split at h
        · cases h
        · rename_i c hs
          obtain ⟨o', h1, h2⟩ := Option.map_eq_some_iff.1 h
          have := unE_len n (show r.length ≤ n by omega) h1
          have := sgn_four hs
          rw [← h2, List.length_append]
          omega
    · rw [unE_cons ha] at h
      obtain ⟨o', h1, h2⟩ := Option.map_eq_some_iff.1 h
      have := unE_len n (show l.length ≤ n by omega) h1
      rw [← h2, List.length_cons]
      omega
theorem outT_len (t : Bs) : (outT t).length ≤ 4 * t.length := by
  unfold outT
  cases h : unE t with
  | none => simp
  | some o => exact unE_len _ (Nat.le_refl _) h

theorem rem_ok {n : Nat} (hn : 7 ≤ n) {r : Nat} {p q : PS} {b : Bool} {d : Int} {h : H} {K : V → H → Prop} (L : Low h) (hr : 16 ≤ r) (P : Prs h r p.1 p.2 d) (hl : p.1.length < 50000) (e : remP p = some (b, q))
    (k : ∀ h', Prs h' r q.1 q.2 d → But h h' (some r) → K (.b b) h') : Ok Tryz.prog n 43 [.p r 0] h K := by
  unfold remP at e
  cases ht : tkB rmk p with
  | false =>
    rw [if_neg (by rw [ht]; decide)] at e
    cases e
    exact rem0_ok (by omega) P ht k
  | true =>
    rw [if_pos ht] at e
    split at e
    · rename_i b' e'
      cases e
      obtain ⟨a, h1, h2⟩ := toD_some e'
      obtain ⟨s, bd⟩ := p
      simp only [tkB, Bool.and_eq_true, Bool.not_eq_true'] at ht
      obtain ⟨ht1, rfl⟩ := ht
      have hs : s = rmk ++ (a ++ 45 :: 45 :: b') := by
        have : s.take 4 = rmk := eq_of_beq ht1
        rw [← this, ← h1, List.take_append_drop]
      obtain ⟨n, rfl⟩ := Nat.exists_eq_add_of_le' hn
      refine Ok.bd (K43 fun hbd => ?_)
      unfold F43
      simp only [cf_k, c43]
      refine take_ok (by omega) P fun g1 P1 f1 => ?_
      have e1 : hasP [60, 33, 45, 45] s = true := ht1
      simp only [e1, Bool.not_false, Bool.and_self, nt_b, Bool.not_true, cd_f, and_self, if_true] at P1 ⊢
      unfold F43_3
      simp only [cf_k, c43]
      have e2 : List.drop ([60, 33, 45, 45] : Bs).length s = a ++ 45 :: 45 :: b' := h1
      rw [e2] at P1
      have hll := congrArg List.length hs
      simp only [List.length_append, List.length_cons] at hll hl
      refine to2_ok (by omega) (L.keep f1 (fun q e => by cases e; exact hr)) P1 h2 (by simp only [List.length_append, List.length_cons]; omega) fun g2 P2 f2 => ?_
      refine want_ok (by omega) P2 fun g3 P3 f3 => ?_
      exact fun _ => k g3 P3 (f1.trans (f2.trans f3))
    · cases e
end Go.Proofs.YtbkhielalbbopaaGreatDoor.Wb
