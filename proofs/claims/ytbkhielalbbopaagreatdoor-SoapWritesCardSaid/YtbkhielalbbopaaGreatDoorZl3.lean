/- Plain laws of parsed texts: signs written, a word, texts and kids. -/
import Derived.Test.YtbkhielalbbopaaGreatDoorZl2
set_option linter.unusedSimpArgs false
set_option linter.unusedVariables false
set_option linter.unusedSectionVars false
set_option linter.unnecessarySimpa false
set_option maxRecDepth 100000
namespace Go.Proofs.YtbkhielalbbopaaGreatDoor.Wb
open Go Go.Am Go.Am.Xm

theorem escB_pl {a : UInt8} (h : 32 ≤ a.toNat ∧ a.toNat < 128) : plnB (escB a) := by
  unfold escB
  repeat' split
  · exact pln_lit (by decide)
  · exact pln_lit (by decide)
  · exact pln_lit (by decide)
  · exact pln_lit (by decide)
  · exact pln_lit (by decide)
  · intro c hc
    simp at hc
    rw [hc]; exact h
theorem esc_pl : ∀ {l : Bs}, plnB l → plnB (esc l)
  | [], _ => fun c hc => by cases hc
  | a :: l, h => pln_app (escB_pl (h a (List.mem_cons_self ..))) (esc_pl fun c hc => h c (List.mem_cons_of_mem _ hc))
theorem escB_no {a c : UInt8} (hc : c ∈ escB a) : c ≠ 60 ∧ c ≠ 39 := by
  unfold escB at hc
  split at hc
  · simp at hc; rcases hc with rfl | rfl | rfl | rfl | rfl <;> decide
  split at hc
  · simp at hc; rcases hc with rfl | rfl | rfl | rfl <;> decide
  split at hc
  · simp at hc; rcases hc with rfl | rfl | rfl | rfl <;> decide
  split at hc
  · simp at hc; rcases hc with rfl | rfl | rfl | rfl | rfl | rfl <;> decide
  split at hc
  · simp at hc; rcases hc with rfl | rfl | rfl | rfl | rfl | rfl <;> decide
  · simp at hc
    subst hc
    exact ⟨by assumption, by assumption⟩
theorem esc_no' : ∀ {l : Bs} {c : UInt8}, c ∈ esc l → c ≠ 60 ∧ c ≠ 39
  | a :: l, c, hc => by
    rw [esc] at hc
    rcases List.mem_append.1 hc with h | h
    · exact escB_no h
    · exact esc_no' h
theorem esc60 (l : Bs) : (60 : UInt8) ∉ esc l := fun h => (esc_no' h).1 rfl
theorem esc39 (l : Bs) : (39 : UInt8) ∉ esc l := fun h => (esc_no' h).2 rfl
theorem badT_of {x o : Bs} (h : unE x = some o) (h60 : (60 : UInt8) ∉ x) : badT x = false := by
  unfold badT
  rw [h, indexByte_no h60]; rfl
theorem outT_of {x o : Bs} (h : unE x = some o) : outT x = o := by unfold outT; rw [h]; rfl

theorem tkP_no {t : Bs} {p : PS} (h : tkB t p = false) : tkP t p = p := by
  unfold tkP
  rw [if_neg]
  rintro ⟨x1, x2⟩
  simp only [tkB, x1, x2] at h
  cases h
theorem op_gt' {m : Nat} {L : Bs} : opL (m + 1) (62 :: L, false) = (false, (L, false)) := by kernel_rfl
theorem NMk : NM [107] [107] := ⟨fun c hc => by simp at hc; subst hc; decide, ⟨107, [], rfl, by decide, by decide, by decide⟩, by decide, by decide⟩

/-- A word k in single quotes, then >. -/
theorem op_word {w Z : Bs} (h39 : (39 : UInt8) ∉ w) (hb : badT w = false) : opL 100000 (32 :: 107 :: 61 :: 39 :: (w ++ 39 :: 62 :: Z), false) = (false, (Z, false)) := by
  generalize hY : w ++ 39 :: 62 :: Z = Y
  have b1 : blP (32 :: 107 :: 61 :: 39 :: Y, false) = (107 :: 61 :: 39 :: Y, false) := by kernel_rfl
  have t1 : tkB [47, 62] (107 :: 61 :: 39 :: Y, false) = false := by kernel_rfl
  have t2 : tkB [62] (107 :: 61 :: 39 :: Y, false) = false := by kernel_rfl
  have n1 : nmP (107 :: 61 :: 39 :: Y, false) = (61 :: 39 :: Y, false) := (NMk.nm (R := 61 :: 39 :: Y) (by kernel_rfl)).2
  have b2 : blP (61 :: 39 :: Y, false) = (61 :: 39 :: Y, false) := by kernel_rfl
  have w1 : wtP [61] (61 :: 39 :: Y, false) = (39 :: Y, false) := wt_app [61] _
  have b3 : blP (39 :: Y, false) = (39 :: Y, false) := by kernel_rfl
  have t3 : tkB [34] (39 :: Y, false) = false := by kernel_rfl
  have w2 : wtP [39] (39 :: Y, false) = (Y, false) := wt_app [39] _
  have q1 : qtP 39 (Y, false) = (62 :: Z, false) := by
    unfold qtP toP
    rw [if_neg (by simp), ← hY, cut1_mk h39]
    simp only [txP, hb, Bool.or_self]
  have wd : wordP (107 :: 61 :: 39 :: Y, false) = (62 :: Z, false) := by
    unfold wordP
    rw [n1, b2, w1, b3, if_neg (by rw [t3]; decide), tkP_no t3, w2, q1]
  rw [show (100000 : Nat) = 99999 + 1 from rfl, opL, if_neg (by simp), b1, if_neg (by rw [t1]; decide), tkP_no t1, if_neg (by rw [t2]; decide), tkP_no t2, if_pos (by simp), wd]
  exact op_gt' (m := 99998)

/-- A text ahead of a < counts as if it stood there before. -/
theorem trl_text {rc : PS → Int → Option (XT × PS × Int)} {m : Nat} {nm tx x o R : Bs} {ks : List XT} {d : Int} (hu : unE x = some o) (h60 : (60 : UInt8) ∉ x) : treeL rc nm (m + 1) tx ks (x ++ 60 :: R, false) d = treeL rc nm (m + 1) (tx ++ o) ks (60 :: R, false) d := by
  have h1 : cut1 60 (60 :: R) = some ([], R) := by kernel_rfl
  have h2 : badT [] = false := badT_of unE_nil (by simp)
  have h3 : outT [] = [] := outT_of unE_nil
  rw [treeL, treeL, if_neg (by simp), if_neg (by simp), cut1_mk h60, h1]
  simp only [List.length_nil, List.drop_zero, h2, h3, List.append_nil, badT_of hu h60, outT_of hu, List.drop_left]
/-- A kid. -/
theorem trl_kid {rc : PS → Int → Option (XT × PS × Int)} {m : Nat} {nm tx R Z : Bs} {c : UInt8} {ks : List XT} {d d' : Int} {t : XT} (h33 : c ≠ 33) (h47 : c ≠ 47) (hr : rc (c :: R, false) d = some (t, (Z, false), d')) : treeL rc nm (m + 1) tx ks (60 :: c :: R, false) d = treeL rc nm m tx (ks ++ [t]) (Z, false) d' := by
  have h1 : cut1 60 (60 :: c :: R) = some ([], c :: R) := by kernel_rfl
  have h2 : badT [] = false := badT_of unE_nil (by simp)
  have h3 : outT [] = [] := outT_of unE_nil
  rw [treeL, if_neg (by simp), h1]
  simp only [List.length_nil, List.drop_zero, h2, h3, List.append_nil]
  have hw : wtP [60] (60 :: c :: R, false) = (c :: R, false) := wt_app [60] _
  rw [rem_no h33]
  simp only
  rw [if_neg (by rw [tkB2 h47]; decide), hw, hr]
/-- The same two, for any depth that was. -/
theorem tree_all' {k : Nat} {n b R Z : Bs} (N : NM n b) (hR : trimS nmS R = R) {d d0 : Int} (ho : opL 100000 (R, false) = (true, (Z, false))) : treeP (k + 1) d (n ++ R, false) d0 = some (.node b [] [], (Z, false), max d0 d) := by
  obtain ⟨h1, h2⟩ := N.nm hR
  have h3 : openP (n ++ R, false) = (true, (Z, false)) := by unfold openP; rw [h2, ho]
  rw [treeP, h3]
  simp only [h1, N.pl, if_true]
theorem tree_in' {k : Nat} {n b R Z : Bs} (N : NM n b) (hR : trimS nmS R = R) {d d0 d1 d2 : Int} (hd : d + 1 = d1) (hm : max d0 d = d2) {r : Option ((Bs × List XT) × PS × Int)} (ho : opL 100000 (R, false) = (false, (Z, false)))
    (hl : treeL (fun q e => treeP k d1 q e) n 100000 [] [] (Z, false) d2 = r) : treeP (k + 1) d (n ++ R, false) d0 = r.map fun r => (.node b r.1.1 r.1.2, r.2.1, r.2.2) := by
  subst hd
  subst hm
  obtain ⟨h1, h2⟩ := N.nm hR
  have h3 : openP (n ++ R, false) = (false, (Z, false)) := by unfold openP; rw [h2, ho]
  rw [treeP, h3]
  simp only [Bool.false_eq_true, if_false, h1, hl]
  cases r with
  | none => rfl
  | some v => simp only [N.pl, Option.map_some]

/-- A text that goes bad is no tree. -/
theorem parse_bad {k : Nat} {s T : Bs} {r : XT × PS × Int} (ha : ahL 100000 false (s, false) = some (60 :: T, false)) (ht : treeP k 1 (T, false) 0 = some r) (hb : r.2.1.2 = true) : parseP k s = some (XT0, 9) := by
  obtain ⟨t, p3, d⟩ := r
  unfold parseP
  rw [ha]
  have hw : wtP [60] (60 :: T, false) = (T, false) := wt_app [60] T
  simp only
  rw [hw, if_neg (by simp), ht]
  have hl : trL 100000 p3 = some p3 := by rw [show (100000 : Nat) = 99999 + 1 from rfl, trL, if_pos hb]
  simp only [hl]
  unfold endP
  rw [if_pos (.inl hb)]
end Go.Proofs.YtbkhielalbbopaaGreatDoor.Wb
