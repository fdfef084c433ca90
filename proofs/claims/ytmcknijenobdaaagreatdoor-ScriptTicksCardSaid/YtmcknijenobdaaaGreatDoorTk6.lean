/- A script's lines, read. -/
import Derived.Test.YtmcknijenobdaaaGreatDoorTk4
import Derived.Test.YtmcknijenobdaaaGreatDoorM5
import Derived.Test.YtmcknijenobdaaaGreatDoorTg0
import Derived.Test.YtmcknijenobdaaaGreatDoorTg1
import Derived.Test.YtmcknijenobdaaaGreatDoorTg2
import Derived.Test.YtmcknijenobdaaaGreatDoorTg3
import Derived.Test.YtmcknijenobdaaaGreatDoorTg4
import Derived.Test.YtmcknijenobdaaaGreatDoorTg5
import Derived.Test.YtmcknijenobdaaaGreatDoorTg6
import Derived.Test.YtmcknijenobdaaaGreatDoorTg7
import Derived.Test.YtmcknijenobdaaaGreatDoorTg8
import Derived.Test.YtmcknijenobdaaaGreatDoorTg9
set_option linter.unusedSimpArgs false
set_option linter.unusedVariables false
set_option linter.unusedSectionVars false
set_option linter.unnecessarySimpa false
set_option maxRecDepth 100000
namespace Go.Proofs.YtmcknijenobdaaaGreatDoor.Wb
open Go Go.Am Go.Am.Xm

/-- A member of a family that was run. -/
theorem mem_fam {f : Nat → Bool} {a m n : Nat} (h : (List.range' a m).all f = true) (h1 : a ≤ n) (h2 : n < a + m) : f n = true :=
  List.all_eq_true.1 h n (List.mem_range'_1.2 ⟨h1, h2⟩)
theorem readBA (n : Nat) (h : n ≤ 300) : readB (mkX Tryz.prog) n = true := by
  rcases Nat.lt_or_ge n 40 with h1 | h1
  · exact mem_fam readB0 (by omega) (by omega)
  rcases Nat.lt_or_ge n 80 with h1 | h1
  · exact mem_fam readB1 (by omega) (by omega)
  rcases Nat.lt_or_ge n 120 with h1 | h1
  · exact mem_fam readB2 (by omega) (by omega)
  rcases Nat.lt_or_ge n 160 with h1 | h1
  · exact mem_fam readB3 (by omega) (by omega)
  rcases Nat.lt_or_ge n 200 with h1 | h1
  · exact mem_fam readB4 (by omega) (by omega)
  rcases Nat.lt_or_ge n 240 with h1 | h1
  · exact mem_fam readB5 (by omega) (by omega)
  rcases Nat.lt_or_ge n 280 with h1 | h1
  · exact mem_fam readB6 (by omega) (by omega)
  exact mem_fam readB7 (by omega) (by omega)
theorem textBA (n : Nat) (h : n ≤ 300) : textB (mkX Tryz.prog) n = true := by
  rcases Nat.lt_or_ge n 151 with h1 | h1
  · exact mem_fam textB0 (by omega) (by omega)
  exact mem_fam textB1 (by omega) (by omega)
theorem fmtBA (n : Nat) (h : n ≤ 300) : fmtB (mkX Tryz.prog) n = true := by
  rcases Nat.lt_or_ge n 101 with h1 | h1
  · exact mem_fam fmtB0 (by omega) (by omega)
  rcases Nat.lt_or_ge n 202 with h1 | h1
  · exact mem_fam fmtB1 (by omega) (by omega)
  exact mem_fam fmtB2 (by omega) (by omega)
theorem tickBA (n : Nat) (h : n ≤ 299) : tickB (mkX Tryz.prog) n = true := by
  rcases Nat.lt_or_ge n 1 with h1 | h1
  · exact mem_fam tickB0 (by omega) (by omega)
  rcases Nat.lt_or_ge n 4 with h1 | h1
  · exact mem_fam tickB1 (by omega) (by omega)
  rcases Nat.lt_or_ge n 5 with h1 | h1
  · exact mem_fam tickB2 (by omega) (by omega)
  rcases Nat.lt_or_ge n 12 with h1 | h1
  · exact mem_fam tickB3 (by omega) (by omega)
  rcases Nat.lt_or_ge n 13 with h1 | h1
  · exact mem_fam tickB4 (by omega) (by omega)
  rcases Nat.lt_or_ge n 28 with h1 | h1
  · exact mem_fam tickB5 (by omega) (by omega)
  rcases Nat.lt_or_ge n 29 with h1 | h1
  · exact mem_fam tickB6 (by omega) (by omega)
  rcases Nat.lt_or_ge n 53 with h1 | h1
  · exact mem_fam tickB7 (by omega) (by omega)
  rcases Nat.lt_or_ge n 60 with h1 | h1
  · exact mem_fam tickB8 (by omega) (by omega)
  rcases Nat.lt_or_ge n 61 with h1 | h1
  · exact mem_fam tickB9 (by omega) (by omega)
  rcases Nat.lt_or_ge n 85 with h1 | h1
  · exact mem_fam tickB10 (by omega) (by omega)
  rcases Nat.lt_or_ge n 109 with h1 | h1
  · exact mem_fam tickB11 (by omega) (by omega)
  rcases Nat.lt_or_ge n 124 with h1 | h1
  · exact mem_fam tickB12 (by omega) (by omega)
  rcases Nat.lt_or_ge n 125 with h1 | h1
  · exact mem_fam tickB13 (by omega) (by omega)
  rcases Nat.lt_or_ge n 149 with h1 | h1
  · exact mem_fam tickB14 (by omega) (by omega)
  rcases Nat.lt_or_ge n 173 with h1 | h1
  · exact mem_fam tickB15 (by omega) (by omega)
  rcases Nat.lt_or_ge n 188 with h1 | h1
  · exact mem_fam tickB16 (by omega) (by omega)
  rcases Nat.lt_or_ge n 189 with h1 | h1
  · exact mem_fam tickB17 (by omega) (by omega)
  rcases Nat.lt_or_ge n 213 with h1 | h1
  · exact mem_fam tickB18 (by omega) (by omega)
  rcases Nat.lt_or_ge n 237 with h1 | h1
  · exact mem_fam tickB19 (by omega) (by omega)
  rcases Nat.lt_or_ge n 252 with h1 | h1
  · exact mem_fam tickB20 (by omega) (by omega)
  rcases Nat.lt_or_ge n 253 with h1 | h1
  · exact mem_fam tickB21 (by omega) (by omega)
  rcases Nat.lt_or_ge n 277 with h1 | h1
  · exact mem_fam tickB22 (by omega) (by omega)
  exact mem_fam tickB23 (by omega) (by omega)
theorem Sit.nil (h : H) (hn : 16 ≤ h.next) : Sit h (fun r => r) [] := ⟨fun _ _ => rfl, fun _ _ _ _ e => e, fun r hr => Nat.lt_of_lt_of_le hr hn, hn, fun i b hb => by simp at hb⟩
/-- One block, wherever it stands. -/
theorem Sit.one {h : H} {r : Nat} {b : B} (hn : 16 ≤ h.next) (hr : 16 ≤ r) (hl : r < h.next) (hg : h.mem.get r = some b) (hb : ∀ j, rnB j b = b) : Sit h (fun k => if k = 16 then r else k) [b] := by
  refine ⟨fun k hk => if_neg (by omega), fun a c ha hc e => ?_, fun k hk => ?_, hn, fun i c hc => ?_⟩
  · simp only [List.length_cons, List.length_nil] at ha hc
    by_cases h1 : a = 16
    · by_cases h2 : c = 16
      · omega
      · rw [if_pos h1, if_neg h2] at e; omega
    · by_cases h2 : c = 16
      · rw [if_neg h1, if_pos h2] at e; omega
      · rw [if_neg h1, if_neg h2] at e; exact e
  · simp only [List.length_cons, List.length_nil] at hk
    by_cases h1 : k = 16
    · show (if k = 16 then r else k) < _
      rw [if_pos h1]; exact hl
    · show (if k = 16 then r else k) < _
      rw [if_neg h1]; omega
  · cases i with
    | zero =>
      simp only [List.getElem?_cons_zero, Option.some.injEq] at hc
      subst hc
      show h.mem.get (if 16 + 0 = 16 then r else _) = _
      rw [if_pos rfl, hg, hb]
    | succ i => simp at hc

/-- A line: so many ticks, or 'now'. -/
abbrev Ln := Option Nat
def encL : Ln → List V
  | some m => [.s tickW, .i .i64 m, .ns]
  | none => [.s nowW, .i .i64 0, .ns]
def wordsL : Ln → List Bs
  | some m => [tickW, dgN m]
  | none => [nowW]
def rowL (l : Ln) : Bs := joinB 32 (wordsL l)
theorem encL_len (l : Ln) : (encL l).length = 3 := by cases l <;> rfl
theorem dg_le (n : Nat) : (dgN n).length ≤ 3 := by
  unfold dgN
  split
  · simp
  · split <;> simp
theorem dg_ne (n : Nat) : dgN n ≠ [] := by
  unfold dgN
  split
  · simp
  · split <;> simp
theorem dg_no {c : UInt8} (hc : c.toNat < 48) {n : Nat} (hn : n < 1000) : c ∉ dgN n := by
  have key : ∀ m, m < 10 → c ≠ UInt8.ofNat (48 + m) := fun m hm e => by
    have := congrArg UInt8.toNat e
    rw [UInt8.toNat_ofNat'] at this
    omega
  unfold dgN
  split
  · simpa using key n (by omega)
  · split
    · simp only [List.mem_cons, List.not_mem_nil, or_false, not_or]
      exact ⟨key _ (by omega), key _ (by omega)⟩
    · simp only [List.mem_cons, List.not_mem_nil, or_false, not_or]
      exact ⟨key _ (by omega), key _ (by omega), key _ (by omega)⟩
theorem words_no (l : Ln) (hl : ∀ m, l = some m → m ≤ 300) : ∀ r ∈ wordsL l, (32 : UInt8) ∉ r := by
  cases l with
  | none => intro r hr; simp only [wordsL, List.mem_singleton] at hr; subst hr; decide
  | some m =>
    intro r hr
    simp only [wordsL, List.mem_cons, List.not_mem_nil, or_false] at hr
    rcases hr with rfl | rfl
    · decide
    · exact dg_no (by decide) (by have := hl m rfl; omega)
theorem row_no (l : Ln) (hl : ∀ m, l = some m → m ≤ 300) : (10 : UInt8) ∉ rowL l := by
  cases l with
  | none => decide
  | some m =>
    have := dg_no (c := 10) (by decide) (n := m) (by have := hl m rfl; omega)
    simp only [rowL, wordsL, joinB, List.mem_append, List.mem_cons, not_or]
    exact ⟨by decide, by decide, this⟩
theorem row_len (l : Ln) : (rowL l).length ≤ 8 := by
  cases l with
  | none => decide
  | some m =>
    have := dg_le m
    simp only [rowL, wordsL, joinB, List.length_append, List.length_cons, tickW, List.length_nil]
    omega
theorem row_ne (l : Ln) : (rowL l == []) = false := by
  cases l with
  | none => rfl
  | some m => simp [rowL, wordsL, joinB, tickW]

/-- A line's words are read. -/
theorem read_ok {l : Ln} (hl : ∀ m, l = some m → m ≤ 300) {h : H} {K : V → H → Prop} {r : Nat} (hn : 16 ≤ r) (hr : r < h.next) (hg : h.mem.get r = some (.c ((wordsL l).map .s) 9 true))
    (k : ∀ h', Bd h' → But h h' none → K (.t [.a (encL l), .b true]) h') : Ok Tryz.prog 97 18 [.sl r 0 (wordsL l).length (wordsL l).length true] h K := by
  have fr : ∀ {h' : H} {b : B}, (∀ j, rnB j b = b) → h.mem.get r = some b → Sit h' (fun k => if k = 16 then r else k) [b] → (∀ p, p < h.next → (∀ i, i < [b].length → (fun k => if k = 16 then r else k) (16 + i) ≠ p) → h'.mem.get p = h.mem.get p) → h.next ≤ h'.next → Bd h' → But h h' none := by
    intro h' b hb hg A hk hle hbd
    refine ⟨hle, fun p hp _ => ?_, fun _ => hbd⟩
    by_cases e : p = r
    · subst e
      have := A.mem 0 b rfl
      simp only [Nat.add_zero, if_pos, hb] at this
      rw [this, hg]
    · refine hk p hp fun i hi => ?_
      have : i = 0 := by simpa using hi
      subst this
      show (if 16 + 0 = 16 then r else _) ≠ p
      rw [if_pos rfl]
      exact fun e2 => e e2.symm
  cases l with
  | none =>
    have hb : ∀ j, rnB j (.c [.s nowW] 9 true) = .c [.s nowW] 9 true := fun j => rfl
    have := ok_stepR (show stepR (mkX Tryz.prog) 97 18 [.sl 16 0 1 1 true] [] [.c [.s nowW] 9 true] (.t [.a [.s nowW, .i .i64 0, .ns], .b true]) 2 [.c [.s nowW] 9 true] [] = true from readNR) (Sit.one (by omega) hn hr hg hb) (Gl.nil h) (K := K) fun h' hbd A hnx _ hk => k h' hbd (fr hb hg A hk (by omega) hbd)
    exact this
  | some m =>
    have hb : ∀ j, rnB j (.c [.s tickW, .s (dgN m)] 9 true) = .c [.s tickW, .s (dgN m)] 9 true := fun j => rfl
    have := ok_stepR (show stepR (mkX Tryz.prog) 97 18 [.sl 16 0 2 2 true] [] [.c [.s tickW, .s (dgN m)] 9 true] (.t [.a [.s tickW, .i .i64 m, .ns], .b true]) 5 [.c [.s tickW, .s (dgN m)] 9 true] [] = true from readBA m (hl m rfl)) (Sit.one (by omega) hn hr hg hb) (Gl.nil h) (K := K) fun h' hbd A hnx _ hk => k h' hbd (fr hb hg A hk (by omega) hbd)
    exact this

set_option maxHeartbeats 8000000 in
/-- What a line's words come to: one line more. -/
theorem words_ok {l : Ln} (hl : ∀ m, l = some m → m ≤ 300) {K : V → H → Prop} {i21 : V → V → V → V → H → Prop} {out rv nv : V} {i : Nat} (hi : i ≤ 1000) {done : List Ln} (hd : done.length ≤ 1000) {h0 h : H} {r : Nat} (h16 : 16 ≤ h0.next) (hb : Bd h) (f : But h0 h none) (hr : h0.next ≤ r) (hr2 : r < h.next) (hg : h.mem.get r = some (.c ((wordsL l).map .s) 9 true))
    (hv : VecE h out 54 3 encL done) (hq : ∀ z, vblk out = some z → h0.next ≤ z)
    (k : ∀ h' out', Bd h' → But h0 h' none → VecE h' out' 54 3 encL (done ++ [l]) → (∀ z, vblk out' = some z → h0.next ≤ z) → i21 out' rv nv (.i .i64 (i + 1 : Nat)) h') :
    F9_85 pw (mkX Tryz.prog) (Ok Tryz.prog 97) K i21 100000 out .ns rv nv (.i .i64 i) (.sl r 0 (wordsL l).length (wordsL l).length false) (.i .i64 (wordsL l).length) (.i .i64 0) h := by
  -- behind the words
  have tail : ∀ (h1 : H) (rw_ : Nat), Bd h1 → But h0 h1 none → h0.next ≤ rw_ → rw_ < h1.next → h1.mem.get rw_ = some (.c ((wordsL l).map .s) 9 true) → VecE h1 out 54 3 encL done →
      F9_43 pw (mkX Tryz.prog) (Ok Tryz.prog 97) K i21 out (.sl rw_ 0 (wordsL l).length (wordsL l).length true) rv nv (.i .i64 i) h1 := by
    intro h1 rw_ hb1 f1 hrw hrw2 hgw hv1
    have hw : 0 < (wordsL l).length := by cases l <;> simp [wordsL]
    unfold F9_43
    rw [ls_sl tt75 rfl]
    simp (disch := omega) only [ws, dec_f]
    unfold F9_49
    simp (disch := omega) only [ws]
    refine read_ok hl (by omega) hrw2 hgw fun h2 hb2 f2 => ?_
    simp only [ex_t, List.getElem?_cons_zero, List.getElem?_cons_succ, oP_some]
    refine al_a tt54 fun r3 h3 g3 f3 l3 l3' => ?_
    refine sn_w g3 rfl (encL_len l) rfl (by cases l <;> rfl) fun h4 g4 f4 => ?_
    simp (disch := omega) only [ws]
    unfold F9_63
    rw [ln_w g4 (encL_len l)]
    rw [Bool.not_true, cd_f]
    show pw.bs _ _ _ [(0, V.a (encL l))] _ _
    refine bs_a (n := 1) (ps := [(0, .a (encL l))]) tt42 rfl tt54 (by decide) (l := [(0, .a (encL l))]) (cs := encL l) (by cases l <;> rfl) (by cases l <;> rfl) fun r5 h5 g5 f5 l5 l5' => ?_
    have hle : h0.next ≤ r3 := Nat.le_trans f1.1 (Nat.le_trans f2.1 l3)
    have f04 : But h0 h4 none := bn1 ((f1.trans f2).trans f3) f4 (fun z hz => by cases hz; exact hle)
    have hq1 : ∀ z, vblk out = some z → z < h1.next := hv1.lt hb1
    have ne3 : vblk out ≠ some r3 := fun e => by have := hq1 _ e; have := f2.1; omega
    have hv5 : VecE h5 out 54 3 encL done := by
      have a2 := hv1.keep hq1 f2 (.inr rfl)
      have q2 : ∀ z, vblk out = some z → z < h2.next := fun z hz => Nat.lt_of_lt_of_le (hq1 z hz) f2.1
      have a3 := a2.keep q2 f3 (.inr rfl)
      have q3 : ∀ z, vblk out = some z → z < h3.next := fun z hz => Nat.lt_of_lt_of_le (q2 z hz) f3.1
      have a4 := a3.keep q3 f4 (.inl ne3)
      exact a4.keep (fun z hz => Nat.lt_of_lt_of_le (q3 z hz) f4.1) f5 (.inr rfl)
    have f05 : But h0 h5 none := f04.trans f5
    refine ap_vec tt42 rfl tt54 tt42 (by intro k; simp) (w := .sl r5 0 1 1 false) (m := 1) rfl (cs := encL l) (by simp only [fcells, g5]; cases l <;> rfl) hv5 (by rw [encL_len]; rfl) (by cases l <;> rfl) (by simp [most]; omega) (by simp [most]; omega) fun out' h6 hv6 f6 hs6 => ?_
    unfold F9_32
    simp (disch := omega) only [ws]
    rw [show ((i : Int) + 1) = ((i + 1 : Nat) : Int) by omega]
    refine k h6 out' (f6.2.2 (f5.2.2 (f4.2.2 (f3.2.2 hb2)))) (bn1 f05 f6 hq) ?_ fun z hz => ?_
    · unfold VecE
      rw [encs_app, encs_one, List.length_append]
      exact hv6
    · rcases hs6 with e | ⟨e, _⟩
      · exact hq z (e ▸ hz)
      · rw [e] at hz; cases hz; exact f05.1
  have hq0 : ∀ z, vblk out = some z → z < h.next := hv.lt hb
  -- the first word
  have first : ∀ (w : Bs) (cnt : Nat) (rest : List Bs), wordsL l = w :: rest → (w == []) = false → cnt = (wordsL l).length →
      (∀ h1 rw_, Bd h1 → But h0 h1 none → h.next ≤ rw_ → rw_ < h1.next → h1.mem.get rw_ = some (.c [.s w] 9 true) → But h h1 none → 
        F9_85 pw (mkX Tryz.prog) (Ok Tryz.prog 97) K i21 99999 out (.sl rw_ 0 1 1 true) rv nv (.i .i64 i) (.sl r 0 cnt cnt false) (.i .i64 cnt) (.i .i64 (1 : Nat)) h1) →
      F9_85 pw (mkX Tryz.prog) (Ok Tryz.prog 97) K i21 100000 out .ns rv nv (.i .i64 i) (.sl r 0 cnt cnt false) (.i .i64 cnt) (.i .i64 0) h := by
    intro w cnt rest hw hne hc kk
    have hc1 : 1 ≤ cnt := by rw [hc, hw]; simp
    rw [S9_85]
    simp (disch := omega) only [ws, dec_t]
    unfold F9_95
    rw [is_sl1 (by omega), l1_a hg (x := .s w) (by rw [hw]; rfl), ne_s, hne]
    simp only [Bool.not_false, cd_t]
    refine bs_a tt75 rfl tt9 (by decide) (l := [(0, .s w)]) rfl (cs := [.s w]) rfl fun r1 h1 g1 f1 l1 l1' => ?_
    refine ap1_ns tt75 rfl tt9 rfl (by decide) g1 fun r2 h2 g2 f2 l2 l2' => ?_
    unfold F9_104
    simp (disch := omega) only [ws]
    exact kk h2 r2 (f2.2.2 (f1.2.2 hb)) ((f.trans f1).trans f2) (Nat.le_trans f1.1 l2) l2' g2 (f1.trans f2)
  cases l with
  | none =>
    refine first nowW 1 [] rfl (by decide) rfl fun h1 rw_ hb1 f1 l1 l1' g1 ff => ?_
    rw [S9_85]
    simp (disch := omega) only [ws, dec_f]
    exact tail h1 rw_ hb1 f1 (Nat.le_trans f.1 l1) l1' g1 (hv.keep hq0 ff (.inr rfl))
  | some m =>
    refine first tickW 2 [dgN m] rfl (by decide) rfl fun h1 rw_ hb1 f1 l1 l1' g1 ff => ?_
    rw [S9_85]
    simp (disch := omega) only [ws, dec_t]
    unfold F9_95
    have hne : (dgN m == []) = false := by rw [beq_eq_false_iff_ne]; exact dg_ne m
    have hg1 := ff.get hr2 (by simp) hg
    rw [is_sl1 (by omega), l1_a hg1 (x := .s (dgN m)) rfl, ne_s, hne]
    simp only [Bool.not_false, cd_t]
    refine bs_a tt75 rfl tt9 (by decide) (l := [(0, .s (dgN m))]) rfl (cs := [.s (dgN m)]) rfl fun r2 h2 g2 f2 l2 l2' => ?_
    refine ap1_el tt75 rfl tt9 rfl (by decide) (l := [.s tickW]) rfl (by decide) rfl g2 (f2.get l1' (by simp) g1) fun r3 h3 g3 f3 l3 l3' => ?_
    unfold F9_104
    simp (disch := omega) only [ws]
    rw [S9_85]
    simp (disch := omega) only [ws, dec_f]
    have ne : vblk out ≠ some rw_ := fun e => by have := hq0 _ e; omega
    have hv2 : VecE h2 out 54 3 encL done := (hv.keep hq0 ff (.inr rfl)).keep (fun z hz => Nat.lt_of_lt_of_le (hq0 z hz) ff.1) f2 (.inr rfl)
    have hv3 : VecE h3 out 54 3 encL done := hv2.keep (fun z hz => Nat.lt_of_lt_of_le (hq0 z hz) (Nat.le_trans ff.1 f2.1)) f3 (.inl ne)
    exact tail h3 r3 (f3.2.2 (f2.2.2 hb1)) (bn1 (f1.trans f2) f3 fun z hz => by cases hz; exact Nat.le_trans f.1 l1) (Nat.le_trans f1.1 (Nat.le_trans f2.1 l3)) l3' g3 hv3

set_option maxHeartbeats 8000000 in
/-- A text of lines is read. -/
theorem parse_ok {L : List Ln} (h0 : L ≠ []) (hL : ∀ l ∈ L, ∀ m, l = some m → m ≤ 300) (hn : L.length ≤ 5) {h : H} (h16 : 16 ≤ h.next) {K : V → H → Prop}
    (k : ∀ h' v, Bd h' → But h h' none → VecE h' v 54 3 encL L → (∀ z, vblk v = some z → h.next ≤ z) → K (.t [v, .i .i64 0]) h') : Ok Tryz.prog 98 9 [.s (joinB 10 (L.map rowL))] h K := by
  refine Ok.bd (K9 fun hbd => ?_)
  have hp : 0 < L.length := List.length_pos_iff.2 h0
  have hno : ∀ r ∈ L.map rowL, (10 : UInt8) ∉ r := fun r hr => by
    obtain ⟨l, h1, rfl⟩ := List.mem_map.1 hr
    exact row_no l (hL l h1)
  have hlen : (joinB 10 (L.map rowL)).length ≤ 100 := by
    have : ∀ M : List Ln, (joinB 10 (M.map rowL)).length ≤ 9 * M.length := by
      intro M
      induction M with
      | nil => simp [joinB]
      | cons a M ih =>
        have := row_len a
        cases M with
        | nil => simp only [List.map_cons, List.map_nil, joinB, List.length_cons, List.length_nil]; omega
        | cons b M =>
          simp only [List.map_cons, joinB, List.length_append, List.length_cons] at ih ⊢
          omega
    have := this L
    omega
  unfold F9
  simp only [c9, cf_k]
  refine split_ok (by omega) (by simpa using h0) hno (by omega) fun h1 r hb1 f1 l1 l1' g1 => ?_
  rw [ls_sl tt75 rfl]
  simp only [List.length_map]
  simp (disch := omega) only [ws]
  try rw [is_sl1 (by omega)]
  try simp only [Nat.mul_one]
  have hlast : ((L.map rowL).map V.s)[0 + ((L.length : Int) - 1).toNat]? = some (.s (rowL (L.getLast h0))) := by
    rw [show 0 + ((L.length : Int) - 1).toNat = L.length - 1 by omega, List.getElem?_map, List.getElem?_map, ← List.getLast?_eq_getElem?, List.getLast?_eq_some_getLast h0]; rfl
  try simp only [Nat.mul_one]
  rw [l1_a g1 hlast, eq_s, row_ne]
  simp only [cd_f]
  unfold F9_7
  rw [lg_s tt9 rfl]
  simp (disch := omega) only [ws, dec_f]
  rw [ls_sl tt75 rfl]
  simp (disch := omega) only [ws, dec_f]
  unfold F9_10
  rw [ls_sl tt75 rfl]
  have g1' : h1.mem.get r = some (.c ((L.map rowL).map .s) 9 true) := g1
  have key : ∀ (fuel i : Nat) (done todo : List Ln) (h2 : H) (out : V), L.length < fuel + i → L = done ++ todo → done.length = i → Bd h2 → But h1 h2 none → h2.mem.get r = some (.c ((L.map rowL).map .s) 9 true) → VecE h2 out 54 3 encL done → (∀ z, vblk out = some z → h1.next ≤ z) →
      F9_21 pw (mkX Tryz.prog) (Ok Tryz.prog 97) (fun v h' => Bd h' → K v h') fuel out (.sl r 0 L.length L.length false) (.i .i64 L.length) (.i .i64 i) h2 := by
    intro fuel
    induction fuel with
    | zero =>
      intro i done todo h2 out h3 h4 h5
      have := congrArg List.length h4
      rw [List.length_append] at this
      omega
    | succ fuel ih =>
      intro i done todo h2 out h3 h4 h5 hb f g hv hq
      have hlen2 := congrArg List.length h4
      rw [List.length_append] at hlen2
      rw [S9_21]
      cases todo with
      | nil =>
        simp only [List.length_nil] at hlen2
        simp (disch := omega) only [ws, dec_f]
        unfold F9_13
        intro hb2
        have e : L = done := by rw [h4, List.append_nil]
        rw [e] at k
        exact k h2 out hb2 (f1.trans f) hv fun z hz => Nat.le_trans f1.1 (hq z hz)
      | cons l todo =>
        simp only [List.length_cons] at hlen2
        simp (disch := omega) only [ws, dec_t]
        unfold F9_27
        rw [is_sl1 (by omega)]
        have hrow : ((L.map rowL).map V.s)[0 + (i : Int).toNat]? = some (.s (rowL l)) := by
          rw [Int.toNat_natCast, Nat.zero_add, List.getElem?_map, List.getElem?_map, h4, ← h5]; simp
        rw [l1_a g hrow]
        simp only [c9, cf_k]
        have hl := hL l (by rw [h4]; simp)
        refine split_ok (rows := wordsL l) (by omega) (by cases l <;> simp [wordsL]) (words_no l hl) (by have := row_len l; show (rowL l).length ≤ _; omega) fun h4' r4 hb4 f4 l4 l4' g4 => ?_
        rw [ls_sl tt75 rfl]
        have f04 := f.trans f4
        refine words_ok hl (by omega) (by omega) (Nat.le_trans h16 f1.1) hb4 f04 (Nat.le_trans f.1 l4) l4' g4 (hv.keep (hv.lt hb) f4 (.inr rfl)) hq fun h5' out' hb5 f5 hv5 hq5 => ?_
        refine ih (i + 1) (done ++ [l]) todo h5' out' (by omega) (by rw [h4]; simp) (by simp [h5]) hb5 f5 (f5.get l1' (by simp) g1') hv5 hq5
  exact key 100000 0 [] L h1 .ns (by omega) rfl rfl hb1 (But.refl _ _) g1' ⟨rfl, .inl ⟨rfl, rfl⟩⟩ (by simp [vblk])
end Go.Proofs.YtmcknijenobdaaaGreatDoor.Wb
