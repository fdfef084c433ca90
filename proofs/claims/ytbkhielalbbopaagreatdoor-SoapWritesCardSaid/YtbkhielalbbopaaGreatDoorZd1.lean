/- Texts written out of trees, read back. -/
import Derived.Test.YtbkhielalbbopaaGreatDoorZl3
set_option linter.unusedSimpArgs false
set_option linter.unusedVariables false
set_option linter.unusedSectionVars false
set_option linter.unnecessarySimpa false
set_option maxRecDepth 100000
namespace Go.Proofs.YtbkhielalbbopaaGreatDoor.Wb
open Go Go.Am Go.Am.Xm

/-- A tree to be written: its name, the words behind it, its text, its kids. -/
inductive Dc where
  | el (nm at_ tx : Bs) (ks : List Dc)

mutual
/-- Behind its <. -/
def Dc.body : Dc → Bs
  | .el nm a tx ks => nm ++ a ++ [62] ++ esc tx ++ bodies ks ++ [60, 47] ++ nm ++ [62]
def bodies : List Dc → Bs
  | [] => []
  | d :: ds => 60 :: (d.body ++ bodies ds)
end
mutual
def Dc.xt : Dc → XT
  | .el nm _ tx ks => .node (plainS nm) tx (xts ks)
def xts : List Dc → List XT
  | [] => []
  | d :: ds => d.xt :: xts ds
end
mutual
def Dc.ht : Dc → Nat
  | .el _ _ _ ks => 1 + hts ks
def hts : List Dc → Nat
  | [] => 0
  | d :: ds => max d.ht (hts ds)
end

/-- Words that may stand behind a name. -/
structure AtOk (a : Bs) : Prop where
  tr : ∀ Z, trimS nmS (a ++ 62 :: Z) = a ++ 62 :: Z
  op : ∀ Z, opL 100000 (a ++ 62 :: Z, false) = (false, (Z, false))
theorem AtOk.nil : AtOk [] := ⟨fun Z => by kernel_rfl, fun Z => op_gt⟩
mutual
def Dc.ok : Dc → Prop
  | .el nm a _ ks => NM nm (plainS nm) ∧ AtOk a ∧ ks.length < 90000 ∧ oks ks
def oks : List Dc → Prop
  | [] => True
  | d :: ds => d.ok ∧ oks ds
end

theorem NM.head {nm b R : Bs} (N : NM nm b) : ∃ c T, nm ++ R = c :: T ∧ c ≠ 33 ∧ c ≠ 47 := by
  obtain ⟨c, n', e, h1, h2, h3⟩ := N.hd
  exact ⟨c, n' ++ R, by rw [e]; rfl, h1, h3⟩
theorem Dc.head {d : Dc} (h : d.ok) (R : Bs) : ∃ c T, d.body ++ R = c :: T ∧ c ≠ 33 ∧ c ≠ 47 := by
  cases d with
  | el nm a tx ks =>
    obtain ⟨c, T, e, h1, h2⟩ := h.1.head (R := a ++ [62] ++ esc tx ++ bodies ks ++ [60, 47] ++ nm ++ [62] ++ R)
    exact ⟨c, T, by rw [← e]; simp [Dc.body], h1, h2⟩

theorem xts_app : ∀ (a b : List Dc), xts (a ++ b) = xts a ++ xts b
  | [], _ => rfl
  | d :: a, b => by simp [xts, xts_app a b]

mutual
/-- What is written is read back. -/
theorem tree_dc : ∀ (d : Dc), d.ok → ∀ (k : Nat) (dp d0 : Int) (R : Bs), d.ht ≤ k → treeP k dp (d.body ++ R, false) d0 = some (d.xt, (R, false), max d0 (dp + d.ht - 1))
  | .el nm a tx ks, ⟨N, A, hl, hk⟩, k, dp, d0, R, hh => by
    obtain ⟨k, rfl⟩ : ∃ j, k = j + 1 := ⟨k - 1, by rw [Dc.ht] at hh; omega⟩
    have hh' : hts ks ≤ k := by rw [Dc.ht] at hh; omega
    generalize hZ : esc tx ++ (bodies ks ++ (60 :: 47 :: (nm ++ 62 :: R))) = Z
    have e1 : (Dc.el nm a tx ks).body ++ R = nm ++ (a ++ 62 :: Z) := by
      rw [← hZ]; simp [Dc.body]
    have hloop := kids_dc ks hk k (dp + 1) hh' (100000 - 1 - ks.length) nm [] tx [] R (max d0 dp)
    rw [show 100000 - 1 - ks.length + ks.length + 1 = 100000 by omega, hZ] at hloop
    have h := tree_in' (k := k) (d := dp) (d0 := d0) N (A.tr Z) rfl rfl (A.op Z) hloop
    rw [e1, h]
    simp only [Option.map_some, Dc.xt, List.nil_append, Option.some.injEq, Prod.mk.injEq, true_and]
    rw [Dc.ht]
    cases ks with
    | nil => simp [hts]
    | cons d ds => simp only [List.isEmpty_cons, Bool.false_eq_true, if_false]; omega
/-- A tree's kids, and its end. -/
theorem kids_dc : ∀ (ks : List Dc), oks ks → ∀ (k : Nat) (dp : Int), hts ks ≤ k → ∀ (m : Nat) (nm tx u : Bs) (ts : List XT) (R : Bs) (d0 : Int),
    treeL (fun q e => treeP k dp q e) nm (m + ks.length + 1) tx ts (esc u ++ (bodies ks ++ (60 :: 47 :: (nm ++ 62 :: R))), false) d0 = some ((tx ++ u, ts ++ xts ks), (R, false), if ks.isEmpty = true then d0 else max d0 (dp + hts ks - 1))
  | [], _, k, dp, _, m, nm, tx, u, ts, R, d0 => by
    have h1 := trl_text (rc := fun q e => treeP k dp q e) (m := m) (nm := nm) (tx := tx) (ks := ts) (R := 47 :: (nm ++ 62 :: R)) (d := d0) (unE_esc u) (esc60 u)
    have h2 := trl_end (rc := fun q e => treeP k dp q e) (m := m) (n := nm) (L := 62 :: R) (Z := R) (tx := tx ++ u) (ks := ts) (d := d0) (by kernel_rfl)
    have e : esc u ++ (bodies [] ++ (60 :: 47 :: (nm ++ 62 :: R))) = esc u ++ 60 :: 47 :: (nm ++ 62 :: R) := rfl
    rw [e]
    refine (h1.trans h2).trans ?_
    simp [xts]
  | d :: ds, ⟨hd, hds⟩, k, dp, hh, m, nm, tx, u, ts, R, d0 => by
    have hh1 : d.ht ≤ k ∧ hts ds ≤ k := by rw [hts] at hh; omega
    have ht := tree_dc d hd k dp d0 (bodies ds ++ (60 :: 47 :: (nm ++ 62 :: R))) hh1.1
    obtain ⟨c, T, e1, h33, h47⟩ := Dc.head hd (bodies ds ++ (60 :: 47 :: (nm ++ 62 :: R)))
    rw [e1] at ht
    have h1 := trl_text (rc := fun q e => treeP k dp q e) (m := m + ds.length + 1) (nm := nm) (tx := tx) (ks := ts) (R := c :: T) (d := d0) (unE_esc u) (esc60 u)
    have h2 := trl_kid (rc := fun q e => treeP k dp q e) (m := m + ds.length + 1) (nm := nm) (tx := tx ++ u) (ks := ts) (d := d0) h33 h47 ht
    have e2 : esc u ++ (bodies (d :: ds) ++ (60 :: 47 :: (nm ++ 62 :: R))) = esc u ++ 60 :: c :: T := by
      rw [← e1]; simp [bodies]
    have h3 := kids_dc ds hds k dp hh1.2 m nm (tx ++ u) [] (ts ++ [d.xt]) R (max d0 (dp + d.ht - 1))
    rw [e2]
    refine (h1.trans h2).trans ?_
    have e3 : esc [] ++ (bodies ds ++ (60 :: 47 :: (nm ++ 62 :: R))) = bodies ds ++ (60 :: 47 :: (nm ++ 62 :: R)) := rfl
    rw [e3] at h3
    rw [h3]
    simp only [List.append_nil, xts, List.append_assoc, List.cons_append, List.nil_append, Option.some.injEq, Prod.mk.injEq, true_and, List.isEmpty_cons, Bool.false_eq_true, if_false]
    rw [hts]
    cases ds with
    | nil => simp [hts]
    | cons d' ds' =>
      simp only [List.isEmpty_cons, Bool.false_eq_true, if_false]
      omega
end

/-- A word in double quotes, then >. -/
theorem op_word34 {an b w Z : Bs} (N : NM an b) (h34 : (34 : UInt8) ∉ w) (hb : badT w = false) : opL 100000 (32 :: (an ++ 61 :: 34 :: (w ++ 34 :: 62 :: Z)), false) = (false, (Z, false)) := by
  generalize hY : w ++ 34 :: 62 :: Z = Y
  have b1 : blP (32 :: (an ++ 61 :: 34 :: Y), false) = (an ++ 61 :: 34 :: Y, false) := by
    obtain ⟨c, n', e, h1, h2, h3⟩ := N.hd
    have hc := N.all c (by rw [e]; exact List.mem_cons_self ..)
    have hbk : ¬ inS blk c = true := by
      intro hb
      have : ∀ n, n < 256 → inS nmS (UInt8.ofNat n) = true → inS blk (UInt8.ofNat n) = false := by decide
      have e2 : UInt8.ofNat c.toNat = c := by simp
      have h4 := this c.toNat c.toNat_lt
      rw [e2] at h4
      rw [h4 hc] at hb
      cases hb
    rw [e]
    show (trimS blk (32 :: c :: _), false) = _
    rw [trimS, if_pos (by decide), trimS, if_neg hbk]
    rfl
  obtain ⟨c, T, e1, h33, h47⟩ := N.head (R := 61 :: 34 :: Y)
  have h62 : c ≠ 62 := by
    intro e
    obtain ⟨c', n', e', _⟩ := N.hd
    have : c' = c := by rw [e'] at e1; simp at e1; exact e1.1
    have hc := N.all c (by rw [e', this]; exact List.mem_cons_self ..)
    rw [e] at hc
    revert hc
    decide
  have t1 : tkB [47, 62] (an ++ 61 :: 34 :: Y, false) = false := by rw [e1]; exact tkB1 h47
  have t2 : tkB [62] (an ++ 61 :: 34 :: Y, false) = false := by rw [e1]; exact tkB1 h62
  have n1 : nmP (an ++ 61 :: 34 :: Y, false) = (61 :: 34 :: Y, false) := (N.nm (R := 61 :: 34 :: Y) (by kernel_rfl)).2
  have b2 : blP (61 :: 34 :: Y, false) = (61 :: 34 :: Y, false) := by kernel_rfl
  have w1 : wtP [61] (61 :: 34 :: Y, false) = (34 :: Y, false) := wt_app [61] _
  have b3 : blP (34 :: Y, false) = (34 :: Y, false) := by kernel_rfl
  have t3 : tkB [34] (34 :: Y, false) = true := by kernel_rfl
  have w2 : tkP [34] (34 :: Y, false) = (Y, false) := by kernel_rfl
  have q1 : qtP 34 (Y, false) = (62 :: Z, false) := by
    unfold qtP toP
    rw [if_neg (by simp), ← hY, cut1_mk h34]
    simp only [txP, hb, Bool.or_self]
  have wd : wordP (an ++ 61 :: 34 :: Y, false) = (62 :: Z, false) := by
    unfold wordP
    rw [n1, b2, w1, b3, if_pos t3, w2, q1]
  rw [show (100000 : Nat) = 99999 + 1 from rfl, opL, if_neg (by simp), b1, if_neg (by rw [t1]; decide), tkP_no t1, if_neg (by rw [t2]; decide), tkP_no t2, if_pos (by simp), wd]
  exact op_gt' (m := 99998)
theorem AtOk.word {an b w : Bs} (N : NM an b) (h34 : (34 : UInt8) ∉ w) (hb : badT w = false) : AtOk (32 :: (an ++ 61 :: 34 :: (w ++ [34]))) := by
  refine ⟨fun Z => ?_, fun Z => ?_⟩
  · rw [List.cons_append, trimS, if_neg (by decide)]
  · have := op_word34 (Z := Z) N h34 hb
    have e : (32 :: (an ++ 61 :: 34 :: (w ++ [34]))) ++ 62 :: Z = 32 :: (an ++ 61 :: 34 :: (w ++ 34 :: 62 :: Z)) := by simp
    rw [e]
    exact this
end Go.Proofs.YtbkhielalbbopaaGreatDoor.Wb
