/- The plain law of XmlPlain: what its four texts come to. -/
import Derived.Test.YtbkhielalbbopaaGreatDoorZq7
set_option linter.unusedSimpArgs false
set_option linter.unusedVariables false
set_option linter.unusedSectionVars false
set_option linter.unnecessarySimpa false
set_option maxRecDepth 100000
namespace Go.Proofs.YtbkhielalbbopaaGreatDoor.Wb
open Go Go.Am Go.Am.Xm

theorem trimS_app {cs n R : Bs} (h : ∀ c ∈ n, inS cs c = true) : trimS cs (n ++ R) = trimS cs R := by
  induction n with
  | nil => rfl
  | cons a n ih =>
    rw [List.cons_append, trimS, if_pos (h a (List.mem_cons_self ..)), ih fun c hc => h c (List.mem_cons_of_mem _ hc)]

/-- A name: signs of names, its plain name, no number or point ahead. -/
structure NM (n b : Bs) : Prop where
  all : ∀ c ∈ n, inS nmS c = true
  hd : ∃ c n', n = c :: n' ∧ c ≠ 33 ∧ c ≠ 63 ∧ c ≠ 47
  ok : badN n = false
  pl : plainS n = b

theorem NM.nm {n b R : Bs} (N : NM n b) (hR : trimS nmS R = R) : nameS (n ++ R) = n ∧ nmP (n ++ R, false) = (R, false) := by
  have h1 : trimS nmS (n ++ R) = R := by rw [trimS_app N.all, hR]
  have h2 : nameS (n ++ R) = n := by
    unfold nameS
    rw [h1, List.length_append, Nat.add_sub_cancel, List.take_left]
  refine ⟨h2, ?_⟩
  unfold nmP
  simp only [h1, h2, N.ok, Bool.or_self]

theorem hasP_app (a b : Bs) : hasP a (a ++ b) = true := by simp [hasP]
theorem wt_app (a b : Bs) : wtP a (a ++ b, false) = (b, false) := by
  simp [wtP, hasP_app]
theorem tkB2 {a b c : UInt8} {T p : Bs} (h : c ≠ b) : tkB (a :: b :: p) (a :: c :: T, false) = false := by
  simp [tkB, hasP, h]
theorem tkB1 {a c : UInt8} {T p : Bs} (h : c ≠ a) : tkB (a :: p) (c :: T, false) = false := by
  simp [tkB, hasP, h]

theorem rem_no {c : UInt8} {T : Bs} (h : c ≠ 33) : remP (60 :: c :: T, false) = some (false, (60 :: c :: T, false)) := by
  unfold remP
  rw [if_neg (by rw [rmk, tkB2 h]; decide)]
/-- Nothing stands ahead of a tree. -/
theorem ah_no {m : Nat} {o : Bool} {c : UInt8} {T : Bs} (h1 : c ≠ 33) (h2 : c ≠ 63) : ahL (m + 1) o (60 :: c :: T, false) = some (60 :: c :: T, false) := by
  have hb : blP (60 :: c :: T, false) = (60 :: c :: T, false) := by kernel_rfl
  rw [ahL, if_neg (by simp), hb, if_neg (by simp), rem_no h1]
  simp only
  rw [if_neg]
  rintro ⟨_, h⟩
  rw [tkB2 h2] at h
  cases h

theorem ah_rem {m : Nat} {o : Bool} {s : Bs} {q : PS} (hb : blP (s, false) = (s, false)) (hr : remP (s, false) = some (true, q)) : ahL (m + 1) o (s, false) = ahL m o q := by
  rw [ahL, if_neg (by simp), hb, if_neg (by simp), hr]
theorem ah_pi {m : Nat} {s b : Bs} (hb : blP (s, false) = (s, false)) (hr : remP (s, false) = some (false, (s, false))) (ht : tkB [60, 63] (s, false) = true) (hd : toD 63 62 (s.drop 2) = some b) : ahL (m + 1) false (s, false) = ahL m true (b, false) := by
  rw [ahL, if_neg (by simp), hb, if_neg (by simp), hr]
  simp only
  rw [if_pos ⟨trivial, ht⟩, hd]

/-- A tree whose beginning is all of it. -/
theorem tree_all {k : Nat} {n b R Z : Bs} (N : NM n b) (hR : trimS nmS R = R) {d : Int} (ho : opL 100000 (R, false) = (true, (Z, false))) : treeP (k + 1) d (n ++ R, false) 0 = some (.node b [] [], (Z, false), max 0 d) := by
  obtain ⟨h1, h2⟩ := N.nm hR
  have h3 : openP (n ++ R, false) = (true, (Z, false)) := by unfold openP; rw [h2, ho]
  rw [treeP, h3]
  simp only [h1, N.pl, if_true]
/-- A tree with something in it. -/
theorem tree_in {k : Nat} {n b R Z : Bs} (N : NM n b) (hR : trimS nmS R = R) {d d' : Int} {tx : Bs} {ks : List XT} {q : PS} (ho : opL 100000 (R, false) = (false, (Z, false)))
    (hl : treeL (fun q e => treeP k (d + 1) q e) n 100000 [] [] (Z, false) (max 0 d) = some ((tx, ks), q, d')) : treeP (k + 1) d (n ++ R, false) 0 = some (.node b tx ks, q, d') := by
  obtain ⟨h1, h2⟩ := N.nm hR
  have h3 : openP (n ++ R, false) = (false, (Z, false)) := by unfold openP; rw [h2, ho]
  rw [treeP, h3]
  simp only [Bool.false_eq_true, if_false, h1, hl, N.pl]
theorem op_gt {L : Bs} : opL 100000 (62 :: L, false) = (false, (L, false)) := by kernel_rfl

theorem tr_nil {m : Nat} : trL (m + 1) ([], false) = some ([], false) := by kernel_rfl

/-- From a tree's beginning to the end. -/
theorem parse_at {k : Nat} {s c T : Bs} {x : UInt8} {t : XT} {p3 : PS} {d : Int} (ha : ahL 100000 false (s, false) = some (60 :: T, false)) (ht : treeP k 1 (T, false) 0 = some (t, p3, d)) (hd : d ≤ 8) (hl : trL 100000 p3 = some ([], false)) : parseP k s = some (t, 0) := by
  unfold parseP
  rw [ha]
  have hw : wtP [60] (60 :: T, false) = (T, false) := wt_app [60] T
  simp only
  rw [hw, if_neg (by simp), ht]
  simp only [hl]
  unfold endP
  rw [if_neg (by simp), if_neg (by omega)]

theorem plain_0 {n b : Bs} (N : NM n b) : parseP 3 ([60] ++ n ++ [47, 62]) = some (.node b [] [], 0) := by
  obtain ⟨c, n', e, h1, h2, h3⟩ := N.hd
  refine parse_at (c := []) (x := 0) (T := n ++ [47, 62]) ?_ (tree_all (Z := []) N (by kernel_rfl) (by kernel_rfl)) (by decide) (tr_nil (m := 99999))
  rw [e]
  exact ah_no (m := 99999) h1 h2
theorem plain_1 {n b : Bs} (N : NM n b) : parseP 3 ([60] ++ n ++ [32, 120, 61, 39, 49, 39, 32, 32, 121, 32, 61, 32, 34, 50, 34, 32, 47, 62]) = some (.node b [] [], 0) := by
  obtain ⟨c, n', e, h1, h2, h3⟩ := N.hd
  refine parse_at (c := []) (x := 0) (T := n ++ [32, 120, 61, 39, 49, 39, 32, 32, 121, 32, 61, 32, 34, 50, 34, 32, 47, 62]) ?_ (tree_all (Z := []) N (by kernel_rfl) (by kernel_rfl)) (by decide) (tr_nil (m := 99999))
  rw [e]
  exact ah_no (m := 99999) h1 h2

/-- The end of a tree. -/
theorem trl_end {rc : PS → Int → Option (XT × PS × Int)} {m : Nat} {n L Z : Bs} {tx : Bs} {ks : List XT} {d : Int} (hz : wtP [62] (blP (L, false)) = (Z, false)) : treeL rc n (m + 1) tx ks (60 :: 47 :: (n ++ L), false) d = some ((tx, ks), (Z, false), d) := by
  rw [treeL, if_neg (by simp)]
  have h1 : cut1 60 (60 :: 47 :: (n ++ L)) = some ([], 47 :: (n ++ L)) := by kernel_rfl
  rw [h1]
  have h2 : badT [] = false := by
    unfold badT
    rw [unE_nil]; rfl
  have h3 : outT [] = [] := by unfold outT; rw [unE_nil]; rfl
  simp only [List.length_nil, List.drop_zero, h2, h3, List.append_nil]
  rw [rem_no (by decide)]
  simp only
  have h4 : tkB [60, 47] (60 :: 47 :: (n ++ L), false) = true := by simp [tkB, hasP]
  have h5 : tkP [60, 47] (60 :: 47 :: (n ++ L), false) = (n ++ L, false) := by simp [tkP, hasP]
  rw [h5, wt_app, hz, if_pos h4]

theorem plain_2 {n b : Bs} (N : NM n b) : parseP 3 ([60, 33, 45, 45, 32, 99, 32, 45, 45, 62, 60] ++ n ++ [62, 60, 47] ++ n ++ [32, 62]) = some (.node b [] [], 0) := by
  obtain ⟨c, n', e, h1, h2, h3⟩ := N.hd
  have ht := tree_in (k := 2) (d := 1) (R := 62 :: 60 :: 47 :: (n ++ [32, 62])) (Z := 60 :: 47 :: (n ++ [32, 62])) (tx := []) (ks := []) (q := ([], false)) (d' := max 0 1) N (by kernel_rfl) op_gt (trl_end (m := 99999) (by kernel_rfl))
  refine parse_at (c := []) (x := 0) (T := n ++ (62 :: 60 :: 47 :: (n ++ [32, 62]))) ?_ ht (by decide) (tr_nil (m := 99999))
  have e1 : ([60, 33, 45, 45, 32, 99, 32, 45, 45, 62, 60] ++ n ++ [62, 60, 47] ++ n ++ [32, 62] : Bs) = 60 :: 33 :: 45 :: 45 :: 32 :: 99 :: 32 :: 45 :: 45 :: 62 :: 60 :: (n ++ (62 :: 60 :: 47 :: (n ++ [32, 62]))) := by simp
  rw [e1]
  have : ahL 100000 false (60 :: 33 :: 45 :: 45 :: 32 :: 99 :: 32 :: 45 :: 45 :: 62 :: 60 :: (n ++ (62 :: 60 :: 47 :: (n ++ [32, 62]))), false) = ahL 99999 false (60 :: (n ++ (62 :: 60 :: 47 :: (n ++ [32, 62]))), false) := ah_rem (m := 99999) (by kernel_rfl) (by kernel_rfl)
  rw [this, e]
  exact ah_no (m := 99998) h1 h2

theorem plain_3 {n b : Bs} (N : NM n b) : parseP 3 ([60, 63, 120, 63, 62, 32, 60] ++ n ++ [62, 60, 33, 45, 45, 45, 45, 62, 60, 47] ++ n ++ [62, 60, 33, 45, 45, 32, 100, 32, 45, 45, 62]) = some (.node b [] [], 0) := by
  obtain ⟨c, n', e, h1, h2, h3⟩ := N.hd
  have hl : ∀ rc : PS → Int → Option (XT × PS × Int), treeL rc n 100000 [] [] (60 :: 33 :: 45 :: 45 :: 45 :: 45 :: 62 :: 60 :: 47 :: (n ++ [62, 60, 33, 45, 45, 32, 100, 32, 45, 45, 62]), false) (max 0 1) = some (([], []), ([60, 33, 45, 45, 32, 100, 32, 45, 45, 62], false), max 0 1) := by
    intro rc
    have h1 : cut1 60 (60 :: 33 :: 45 :: 45 :: 45 :: 45 :: 62 :: 60 :: 47 :: (n ++ [62, 60, 33, 45, 45, 32, 100, 32, 45, 45, 62])) = some ([], 33 :: 45 :: 45 :: 45 :: 45 :: 62 :: 60 :: 47 :: (n ++ [62, 60, 33, 45, 45, 32, 100, 32, 45, 45, 62])) := by kernel_rfl
    have h2 : badT [] = false := by
      unfold badT
      rw [unE_nil]; rfl
    have h3 : outT [] = [] := by unfold outT; rw [unE_nil]; rfl
    have h4 : remP (60 :: 33 :: 45 :: 45 :: 45 :: 45 :: 62 :: 60 :: 47 :: (n ++ [62, 60, 33, 45, 45, 32, 100, 32, 45, 45, 62]), false) = some (true, (60 :: 47 :: (n ++ [62, 60, 33, 45, 45, 32, 100, 32, 45, 45, 62]), false)) := by kernel_rfl
    rw [show (100000 : Nat) = 99999 + 1 from rfl, treeL, if_neg (by simp), h1]
    simp only [List.length_nil, List.drop_zero, h2, h3, List.append_nil, h4]
    exact trl_end (m := 99998) (by kernel_rfl)
  have ht := tree_in (k := 2) (d := 1) (R := 62 :: 60 :: 33 :: 45 :: 45 :: 45 :: 45 :: 62 :: 60 :: 47 :: (n ++ [62, 60, 33, 45, 45, 32, 100, 32, 45, 45, 62])) N (by kernel_rfl) op_gt (hl _)
  refine parse_at (c := []) (x := 0) (T := n ++ (62 :: 60 :: 33 :: 45 :: 45 :: 45 :: 45 :: 62 :: 60 :: 47 :: (n ++ [62, 60, 33, 45, 45, 32, 100, 32, 45, 45, 62]))) ?_ ht (by decide) (by kernel_rfl)
  have e1 : ([60, 63, 120, 63, 62, 32, 60] ++ n ++ [62, 60, 33, 45, 45, 45, 45, 62, 60, 47] ++ n ++ [62, 60, 33, 45, 45, 32, 100, 32, 45, 45, 62] : Bs) = 60 :: 63 :: 120 :: 63 :: 62 :: 32 :: 60 :: (n ++ (62 :: 60 :: 33 :: 45 :: 45 :: 45 :: 45 :: 62 :: 60 :: 47 :: (n ++ [62, 60, 33, 45, 45, 32, 100, 32, 45, 45, 62]))) := by simp
  rw [e1]
  generalize hT : (62 :: 60 :: 33 :: 45 :: 45 :: 45 :: 45 :: 62 :: 60 :: 47 :: (n ++ [62, 60, 33, 45, 45, 32, 100, 32, 45, 45, 62]) : Bs) = R
  have a1 : ahL 100000 false (60 :: 63 :: 120 :: 63 :: 62 :: 32 :: 60 :: (n ++ R), false) = ahL 99999 true (32 :: 60 :: (n ++ R), false) := ah_pi (m := 99999) (by kernel_rfl) (by kernel_rfl) (by kernel_rfl) (by kernel_rfl)
  have a2 : ahL 99999 true (32 :: 60 :: (n ++ R), false) = ahL 99998 true (60 :: (n ++ R), false) := by
    have hb : blP (32 :: 60 :: (n ++ R), false) = (60 :: (n ++ R), false) := by kernel_rfl
    rw [show (99999 : Nat) = 99998 + 1 from rfl, ahL, if_neg (by simp), hb, if_pos (by simp)]
  rw [a1, a2, e]
  exact ah_no (m := 99997) h1 h2
end Go.Proofs.YtbkhielalbbopaaGreatDoor.Wb
