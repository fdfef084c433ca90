/- The parser: up to a byte. -/
import Derived.Test.YtbkhielalbbopaaGreatDoorZp1
set_option linter.unusedSimpArgs false
set_option linter.unusedVariables false
set_option linter.unusedSectionVars false
set_option linter.unnecessarySimpa false
set_option maxRecDepth 100000
namespace Go.Proofs.YtbkhielalbbopaaGreatDoor.Wb
open Go Go.Am Go.Am.Xm

theorem Prs.keep {h h' : H} {r : Nat} {s : Bs} {bad : Bool} {d : Int} {q : Option Nat} (P : Prs h r s bad d) (f : But h h' q) (hr : r < h.next) (hq : q ≠ some r) : Prs h' r s bad d := by
  obtain ⟨ty, P⟩ := P
  exact ⟨ty, f.get hr (fun e => hq e.symm) P⟩

/-- Up to a byte that must come: what stands ahead of it. -/
theorem to1_ok {n : Nat} (hn : 6 ≤ n) {r : Nat} {s : Bs} {c : UInt8} {bad : Bool} {d : Int} {h : H} {K : V → H → Prop} (P : Prs h r s bad d) (hl : s.length ≤ 1099511627776)
    (k : ∀ h' a b, cut1 c s = some (a, b) → bad = false → Prs h' r b false d → But h h' (some r) → K (.s a) h')
    (k0 : ∀ h', (cut1 c s = none ∨ bad = true) → Prs h' r s true d → But h h' (some r) → K (.s []) h') : Ok Tryz.prog n 77 [.p r 0, .s [c]] h K := by
  obtain ⟨n, rfl⟩ := Nat.exists_eq_add_of_le' hn
  obtain ⟨ty, P⟩ := P
  refine Ok.bd (K77 fun hbd => ?_)
  unfold F77
  simp only [nl_p, fa_p, Nat.zero_add]
  rw [l1_a P rfl, cf_k]
  refine cut_ok (by omega) hl (fun a b e => ?_) (fun e => ?_)
  · simp only [ex_t, List.getElem?_cons_zero, List.getElem?_cons_succ, oP_some, nt_b, Bool.not_true, g0_f, nl_p, fa_p, Nat.zero_add]
    rw [l1_a P rfl]
    simp only [pk_f]
    cases bad with
    | true =>
      simp only [cd_t]
      refine s1_a P (by simp) rfl fun h1 hg f => ?_
      exact fun _ => k0 h1 (.inr rfl) ⟨ty, hg⟩ f
    | false =>
      simp only [cd_f, F77_17, nl_p, fa_p, Nat.zero_add]
      refine s1_a P (by simp) rfl fun h1 hg f => ?_
      exact fun _ => k h1 a b e rfl ⟨ty, hg⟩ f
  · simp only [ex_t, List.getElem?_cons_zero, List.getElem?_cons_succ, oP_some, nt_b, Bool.not_false, g0_t, pk_t, cd_t, nl_p, fa_p, Nat.zero_add]
    refine s1_a P (by simp) rfl fun h1 hg f => ?_
    exact fun _ => k0 h1 (.inl e) ⟨ty, hg⟩ f
end Go.Proofs.YtbkhielalbbopaaGreatDoor.Wb
