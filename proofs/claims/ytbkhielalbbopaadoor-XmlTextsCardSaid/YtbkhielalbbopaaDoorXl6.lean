/- The plain law of XmlTexts: a tree with kids of texts. -/
import Derived.Test.YtbkhielalbbopaaDoorXl5
set_option linter.unusedSimpArgs false
set_option linter.unusedVariables false
set_option linter.unusedSectionVars false
set_option linter.unnecessarySimpa false
set_option maxRecDepth 100000
namespace Go.Proofs.YtbkhielalbbopaaDoor.Wb
open Go Go.Am Go.Am.Xm

def kb (i : Nat) : UInt8 := UInt8.ofNat (97 + i)
theorem kb_nat {i : Nat} (h : i < 26) : (kb i).toNat = 97 + i := by
  unfold kb
  rw [UInt8.toNat_ofNat']
  omega
theorem kb_az {i : Nat} (h : i < 26) : azB (kb i) = true := by
  unfold azB
  rw [kb_nat h]
  simp; omega
theorem kb_inj {i j : Nat} (hi : i < 26) (hj : j < 26) (e : kb i = kb j) : i = j := by
  have := congrArg UInt8.toNat e
  rw [kb_nat hi, kb_nat hj] at this
  omega

theorem lastB_no {l : Bs} {c : UInt8} (h : c ∉ l) : ∀ i, lastB l c i = -1
  | 0 => rfl
  | i + 1 => by
    rw [lastB, if_neg (fun e => h (List.mem_of_getElem? e)), lastB_no h i]
theorem plainS_no {l : Bs} (h : (58 : UInt8) ∉ l) : plainS l = l := by
  unfold plainS
  rw [lastB_no h]
  rfl
theorem NMi {i : Nat} (h : i < 26) : NM [107, kb i] [107, kb i] := by
  have hz := kb_az h
  refine ⟨fun c hc => ?_, ⟨107, [kb i], rfl, by decide, by decide, by decide⟩, by show decide (0 ≤ Lib.indexByte mrS 107) = false; decide, plainS_no fun hm => ?_⟩
  · simp at hc
    rcases hc with rfl | rfl
    · decide
    · exact (az_nm hz).1
  · simp at hm
    exact az_ne hz (by decide) hm.symm

/-- A kid's text; what stands in the tree. -/
def kidS (ey : Bs) (i : Nat) : Bs := [60, 107] ++ [kb i] ++ [62] ++ ey ++ [60, 47, 107] ++ [kb i] ++ [62]
def kidsS (ey : Bs) (i j : Nat) : Bs := (List.range' i j).flatMap (kidS ey)
def kidsT (y : Bs) (i j : Nat) : List XT := (List.range' i j).map fun i => .node [107, kb i] y []

theorem kid_tree {y R : Bs} {i : Nat} (hi : i < 26) {d : Int} (hd : d ≤ 2) : treeP 2 2 (107 :: kb i :: 62 :: (esc y ++ (60 :: 47 :: 107 :: kb i :: 62 :: R)), false) d = some (.node [107, kb i] y [], (R, false), 2) := by
  have hR : trimS nmS (62 :: (esc y ++ (60 :: 47 :: 107 :: kb i :: 62 :: R))) = 62 :: (esc y ++ (60 :: 47 :: 107 :: kb i :: 62 :: R)) := by kernel_rfl
  have hl : treeL (fun q e => treeP 1 3 q e) [107, kb i] 100000 [] [] (esc y ++ (60 :: 47 :: 107 :: kb i :: 62 :: R), false) 2 = some ((y, []), (R, false), 2) := by
    have h1 := trl_text (rc := fun q e => treeP 1 3 q e) (m := 99999) (nm := [107, kb i]) (tx := []) (ks := []) (R := 47 :: 107 :: kb i :: 62 :: R) (d := 2) (unE_esc y) (esc60 y)
    rw [h1]
    have h2 := trl_end (rc := fun q e => treeP 1 3 q e) (m := 99999) (n := [107, kb i]) (L := 62 :: R) (Z := R) (tx := [] ++ y) (ks := []) (d := 2) (by kernel_rfl)
    rw [List.nil_append] at h2 ⊢
    exact h2
  have h := tree_in' (k := 1) (d := 2) (d0 := d) (d1 := 3) (d2 := 2) (NMi hi) hR (by decide) (by omega) op_gt hl
  exact h

theorem texts_loop {x0 y : Bs} : ∀ (j i : Nat) (m : Nat) (u tx : Bs) (ks : List XT) (d : Int), i + j ≤ 20 → d ≤ 2 → 1 ≤ d → tx ++ u = x0 → ∃ d', d' ≤ 2 ∧
    treeL (fun q e => treeP 2 2 q e) [114] (m + j + 1) tx ks (esc u ++ (kidsS (esc y) i j ++ (esc y ++ [60, 47, 114, 62])), false) d = some ((x0 ++ y, ks ++ kidsT y i j), ([], false), d')
  | 0, i, m, u, tx, ks, d, hij, hd, hd1, hx => by
    refine ⟨d, hd, ?_⟩
    have hu : unE (esc u ++ esc y) = some (u ++ y) := by rw [← esc_app, unE_esc]
    have h60 : (60 : UInt8) ∉ esc u ++ esc y := by rw [← esc_app]; exact esc60 _
    have h1 := trl_text (rc := fun q e => treeP 2 2 q e) (m := m) (nm := [114]) (tx := tx) (ks := ks) (R := [47, 114, 62]) (d := d) hu h60
    have h2 := trl_end (rc := fun q e => treeP 2 2 q e) (m := m) (n := [114]) (L := [62]) (Z := []) (tx := tx ++ (u ++ y)) (ks := ks) (d := d) (by kernel_rfl)
    have e1 : esc u ++ (kidsS (esc y) i 0 ++ (esc y ++ [60, 47, 114, 62])) = (esc u ++ esc y) ++ [60, 47, 114, 62] := by simp [kidsS]
    rw [e1, Nat.add_zero]
    rw [h1]
    refine h2.trans ?_
    rw [← List.append_assoc, hx]
    simp [kidsT]
  | j + 1, i, m, u, tx, ks, d, hij, hd, hd1, hx => by
    obtain ⟨d', hd', hrec⟩ := texts_loop (x0 := x0) (y := y) j (i + 1) m [] (tx ++ u) (ks ++ [.node [107, kb i] y []]) 2 (by omega) (by decide) (by decide) (by rw [List.append_nil]; exact hx)
    refine ⟨d', hd', ?_⟩
    have e1 : esc u ++ (kidsS (esc y) i (j + 1) ++ (esc y ++ [60, 47, 114, 62])) = esc u ++ 60 :: (107 :: kb i :: 62 :: (esc y ++ (60 :: 47 :: 107 :: kb i :: 62 :: (kidsS (esc y) (i + 1) j ++ (esc y ++ [60, 47, 114, 62]))))) := by
      simp [kidsS, kidS, List.range'_succ]
    have h1 := trl_text (rc := fun q e => treeP 2 2 q e) (m := m + j + 1) (nm := [114]) (tx := tx) (ks := ks) (R := 107 :: kb i :: 62 :: (esc y ++ (60 :: 47 :: 107 :: kb i :: 62 :: (kidsS (esc y) (i + 1) j ++ (esc y ++ [60, 47, 114, 62]))))) (d := d) (unE_esc u) (esc60 u)
    have h2 := trl_kid (rc := fun q e => treeP 2 2 q e) (m := m + j + 1) (nm := [114]) (tx := tx ++ u) (ks := ks) (d := d) (by decide) (by decide) (kid_tree (y := y) (R := kidsS (esc y) (i + 1) j ++ (esc y ++ [60, 47, 114, 62])) (i := i) (by omega) hd)
    rw [e1, show m + (j + 1) + 1 = m + j + 1 + 1 by omega]
    refine (h1.trans h2).trans ?_
    have e2 : esc [] ++ (kidsS (esc y) (i + 1) j ++ (esc y ++ [60, 47, 114, 62])) = kidsS (esc y) (i + 1) j ++ (esc y ++ [60, 47, 114, 62]) := rfl
    rw [e2] at hrec
    rw [hrec]
    simp [kidsT, List.range'_succ]

/-- What the law's text comes to. -/
def textS (x y : Bs) (n : Nat) : Bs := [60, 114, 32, 107, 61, 39] ++ esc x ++ [39, 62] ++ esc x ++ kidsS (esc y) 0 n
theorem texts_parse {x y : Bs} {n : Nat} (hn : n ≤ 20) : parseP 3 (textS x y n ++ esc y ++ [60, 47, 114, 62]) = some (.node [114] (x ++ y) (kidsT y 0 n), 0) := by
  obtain ⟨d', hd', hl⟩ := texts_loop (x0 := x) (y := y) n 0 (99999 - n) x [] [] 1 (by omega) (by decide) (by decide) rfl
  rw [show 99999 - n + n + 1 = 100000 by omega] at hl
  have hop := op_word (w := esc x) (Z := esc x ++ (kidsS (esc y) 0 n ++ (esc y ++ [60, 47, 114, 62]))) (esc39 x) (badT_of (unE_esc x) (esc60 x))
  generalize hW : esc x ++ 39 :: 62 :: (esc x ++ (kidsS (esc y) 0 n ++ (esc y ++ [60, 47, 114, 62]))) = W at hop
  have hR : trimS nmS (32 :: 107 :: 61 :: 39 :: W) = 32 :: 107 :: 61 :: 39 :: W := by kernel_rfl
  have ht := tree_in' (k := 2) (d := 1) (d0 := 0) (d1 := 2) (d2 := 1) NMr hR (by decide) (by decide) hop hl
  have es : textS x y n ++ esc y ++ [60, 47, 114, 62] = 60 :: 114 :: 32 :: 107 :: 61 :: 39 :: W := by
    rw [← hW]
    simp [textS]
  rw [es]
  exact parse_at (c := []) (x := 0) (ah_no (m := 99999) (by decide) (by decide)) ht (show d' ≤ 8 by omega) (tr_nil (m := 99999))

theorem kidN_at {y : Bs} : ∀ (j i k : Nat), i ≤ k → k < i + j → i + j ≤ 20 → kidN [107, kb k] (kidsT y i j) = some (.node [107, kb k] y [])
  | 0, i, k, h1, h2, _ => by omega
  | j + 1, i, k, h1, h2, h3 => by
    have e : kidsT y i (j + 1) = .node [107, kb i] y [] :: kidsT y (i + 1) j := by simp [kidsT, List.range'_succ]
    rw [e, kidN]
    by_cases hk : k = i
    · subst hk
      rw [if_pos (show (XT.node [107, kb k] y []).nm = [107, kb k] from rfl)]
    · rw [if_neg, kidN_at j (i + 1) k (by omega) (by omega) (by omega)]
      intro hc
      have : kb i = kb k := by
        have hc' : ([107, kb i] : Bs) = [107, kb k] := hc
        simpa using hc'
      exact hk (kb_inj (by omega) (by omega) this).symm
theorem texts_find {x y : Bs} {n k : Nat} (hn : n ≤ 20) (hk : k < n) : findP (.node [114] (x ++ y) (kidsT y 0 n)) [[107, kb k]] = some (.node [107, kb k] y []) := by
  rw [findP, if_neg (by simp [XT.kids, kidsT]; omega)]
  show (match kidN [107, kb k] (kidsT y 0 n) with | none => none | some t => findP t []) = _
  rw [kidN_at n 0 k (by omega) (by omega) (by omega)]
  rfl
end Go.Proofs.YtbkhielalbbopaaDoor.Wb
