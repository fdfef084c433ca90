/- A name. -/
import Derived.Test.YtbkhielalbbopaaGreatDoorZp4
set_option linter.unusedSimpArgs false
set_option linter.unusedVariables false
set_option linter.unusedSectionVars false
set_option linter.unnecessarySimpa false
set_option maxRecDepth 100000
namespace Go.Proofs.YtbkhielalbbopaaGreatDoor.Wb
open Go Go.Am Go.Am.Xm

theorem con1_ok {n : Nat} (hn : 5 ≤ n) {l : Bs} {c : UInt8} {h : H} {K : V → H → Prop} (k : K (.b (decide (0 ≤ Lib.indexByte l c))) h) : Ok Tryz.prog n 112 [.s l, .s [c]] h K := by
  obtain ⟨n, rfl⟩ := Nat.exists_eq_add_of_le' hn
  refine Ok.bd (K112 fun hbd => ?_)
  unfold F112
  simp only [cf_k]
  refine K139 fun hbd => ?_
  unfold F139
  simp only [cf_k]
  refine idx1_ok (by omega) ?_
  simp only [ge_i]
  exact fun _ => k

/-- What a name may hold; what it may not begin with. -/
def nmS : Bs := [97, 98, 99, 100, 101, 102, 103, 104, 105, 106, 107, 108, 109, 110, 111, 112, 113, 114, 115, 116, 117, 118, 119, 120, 121, 122, 65, 66, 67, 68, 69, 70, 71, 72, 73, 74, 75, 76, 77, 78, 79, 80, 81, 82, 83, 84, 85, 86, 87, 88, 89, 90, 95, 58, 48, 49, 50, 51, 52, 53, 54, 55, 56, 57, 45, 46]
def mrS : Bs := [48, 49, 50, 51, 52, 53, 54, 55, 56, 57, 45, 46]
def nameS (s : Bs) : Bs := s.take (s.length - (trimS nmS s).length)
def badN : Bs → Bool
  | [] => true
  | a :: _ => decide (0 ≤ Lib.indexByte mrS a)

theorem name_s_ok {n : Nat} (hn : 6 ≤ n) {r : Nat} {s : Bs} {bad : Bool} {d : Int} {h : H} {K : V → H → Prop} (P : Prs h r s bad d) (hr : r < h.next) (hl : s.length < 50000)
    (k : ∀ h', Prs h' r (trimS nmS s) (bad || badN (nameS s)) d → But h h' (some r) → K (.s (nameS s)) h') : Ok Tryz.prog n 107 [.p r 0] h K := by
  obtain ⟨n, rfl⟩ := Nat.exists_eq_add_of_le' hn
  obtain ⟨ty, P⟩ := P
  refine Ok.bd (K107 fun hbd => ?_)
  unfold F107
  simp only [nl_p, fa_p, Nat.zero_add, c107]
  rw [l1_a P rfl, cf_k]
  refine trim_ok (cs := nmS) (by omega) (by decide) (by decide) (by decide) hl fun h1 f1 => ?_
  have P1 := f1.get hr (by simp) P
  have hle := trimS_len nmS s
  rw [l1_a P1 rfl, l1_a P1 rfl, lg_s tt9 rfl, lg_s tt9 rfl, sb_64 (by omega), show ((s.length : Nat) : Int) - ((trimS nmS s).length : Nat) = ((s.length - (trimS nmS s).length : Nat) : Int) by omega, sc_s0 tt9 rfl (by omega), eq_s]
  have hnm : s.take (s.length - (trimS nmS s).length) = nameS s := rfl
  rw [hnm]
  -- the end
  have fin : ∀ {h2 : H} {b : Bool}, h2.mem.get r = some (.c [.s s, .b b, .i .i64 d] ty true) → But h1 h2 (some r) → b = (bad || badN (nameS s)) → F107_23 pw (mkX Tryz.prog) (Ok Tryz.prog (n + 5)) (fun v h => Bd h → K v h) (.p r 0) (.s (trimS nmS s)) (.s (nameS s)) h2 := by
    intro h2 b hg f hb
    unfold F107_23
    simp only [nl_p, fa_p, Nat.zero_add]
    refine s1_a hg (by simp) rfl fun h3 hg3 f3 => ?_
    subst hb
    exact fun _ => k h3 ⟨ty, hg3⟩ ((f1.none (some r)).trans (f.trans f3))
  have setb : badN (nameS s) = true → pw.s1 (.p r 1) (.b true) h1 fun h47 => F107_23 pw (mkX Tryz.prog) (Ok Tryz.prog (n + 5)) (fun v h => Bd h → K v h) (.p r 0) (.s (trimS nmS s)) (.s (nameS s)) h47 := by
    intro hb
    refine s1_a P1 (by simp) rfl fun h2 hg f => ?_
    exact fin hg f (by rw [hb, Bool.or_true])
  revert fin setb
  cases hs : nameS s with
  | nil =>
    intro fin setb
    simp only [beq_self_eq_true, g0_t, pk_t, cd_t]
    exact setb rfl
  | cons a l =>
    intro fin setb
    have : (a :: l == ([] : Bs)) = false := rfl
    rw [this]
    simp only [g0_f]
    rw [show pw.sc (mkX Tryz.prog) 9 (.s (a :: l)) none (some (.i .i64 1)) none = fun κ => κ (.s [a]) from funext fun κ => sc_s0 tt9 rfl (n := 1) (by simp)]
    dsimp only
    rw [cf_k]
    refine con1_ok (l := mrS) (by omega) ?_
    simp only [pk_f]
    cases hb : decide (0 ≤ Lib.indexByte mrS a) with
    | true =>
      simp only [cd_t]
      exact setb hb
    | false =>
      simp only [cd_f]
      exact fin P1 (But.refl _ _) (by simp only [badN, hb, Bool.or_false])
end Go.Proofs.YtbkhielalbbopaaGreatDoor.Wb
