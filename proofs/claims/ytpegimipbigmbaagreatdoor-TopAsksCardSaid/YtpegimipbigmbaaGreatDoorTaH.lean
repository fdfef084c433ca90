/- TopAsks: what the runs tell. -/
import Derived.Test.YtpegimipbigmbaaGreatDoorTaR0
import Derived.Test.YtpegimipbigmbaaGreatDoorTaR1
import Derived.Test.YtpegimipbigmbaaGreatDoorTaR2
import Derived.Test.YtpegimipbigmbaaGreatDoorTaR3
import Derived.Test.YtpegimipbigmbaaGreatDoorTaR4
import Derived.Test.YtpegimipbigmbaaGreatDoorTaR5
import Derived.Test.YtpegimipbigmbaaGreatDoorTaR6
import Derived.Test.YtpegimipbigmbaaGreatDoorTaR7
import Derived.Test.YtpegimipbigmbaaGreatDoorTaR8
import Derived.Test.YtpegimipbigmbaaGreatDoorTaR9
import Derived.Test.YtpegimipbigmbaaGreatDoorTaR10
import Derived.Test.YtpegimipbigmbaaGreatDoorTaR11
import Derived.Test.YtpegimipbigmbaaGreatDoorTaR12
import Derived.Test.YtpegimipbigmbaaGreatDoorTaR13
import Derived.Test.YtpegimipbigmbaaGreatDoorTaR14
import Derived.Test.YtpegimipbigmbaaGreatDoorTaR15
import Derived.Test.YtpegimipbigmbaaGreatDoorM10
set_option linter.unusedSimpArgs false
set_option linter.unusedVariables false
set_option linter.unusedSectionVars false
set_option linter.unnecessarySimpa false
set_option maxRecDepth 100000
namespace Go.Proofs.YtpegimipbigmbaaGreatDoor.topAsks
open Go.Am Go.Proofs.YtpegimipbigmbaaGreatDoor.Facts
theorem all16 {p : Nat → Prop} (a0 : p 0) (a1 : p 1) (a2 : p 2) (a3 : p 3) (a4 : p 4) (a5 : p 5) (a6 : p 6) (a7 : p 7) (a8 : p 8) (a9 : p 9) (a10 : p 10) (a11 : p 11) (a12 : p 12) (a13 : p 13) (a14 : p 14) (a15 : p 15) : ∀ c, c < 16 → p c := fun c hc => by
 have : c = 0 ∨ c = 1 ∨ c = 2 ∨ c = 3 ∨ c = 4 ∨ c = 5 ∨ c = 6 ∨ c = 7 ∨ c = 8 ∨ c = 9 ∨ c = 10 ∨ c = 11 ∨ c = 12 ∨ c = 13 ∨ c = 14 ∨ c = 15 := by omega
 rcases this with rfl | rfl | rfl | rfl | rfl | rfl | rfl | rfl | rfl | rfl | rfl | rfl | rfl | rfl | rfl | rfl <;> assumption
theorem n00 (σ : Nat → Int) : vi σ (.ofNat 18446745173221179392) = σ 0 := (vi_n σ 0 0 _ (by decide) (by decide) (by decide)).trans (Int.add_zero _)
theorem n10 (σ : Nat → Int) : vi σ (.ofNat 18446747372244434944) = σ 1 := (vi_n σ 1 0 _ (by decide) (by decide) (by decide)).trans (Int.add_zero _)
theorem n20 (σ : Nat → Int) : vi σ (.ofNat 18446749571267690496) = σ 2 := (vi_n σ 2 0 _ (by decide) (by decide) (by decide)).trans (Int.add_zero _)
theorem n40 (σ : Nat → Int) : vi σ (.ofNat 18446753969314201600) = σ 4 := (vi_n σ 4 0 _ (by decide) (by decide) (by decide)).trans (Int.add_zero _)
theorem n01 (σ : Nat → Int) : vi σ (.ofNat 18446745173221179393) = σ 0 + 1 := vi_n σ 0 1 _ (by decide) (by decide) (by decide)
theorem n11 (σ : Nat → Int) : vi σ (.ofNat 18446747372244434945) = σ 1 + 1 := vi_n σ 1 1 _ (by decide) (by decide) (by decide)
theorem n31 (σ : Nat → Int) : vi σ (.ofNat 18446751770290946049) = σ 3 + 1 := vi_n σ 3 1 _ (by decide) (by decide) (by decide)
def FitL : List (Int × Int) → List Int → Prop
 | [], [] => True
 | p :: r, v :: s => (p.1 ≤ v ∧ v ≤ p.2) ∧ FitL r s
 | _, _ => False
theorem FitL.ok : ∀ {iv : List (Int × Int)} {l : List Int}, FitL iv l → Fits l iv
 | [], [], _ => ⟨rfl, fun i x y h => by simp at h⟩
 | [], _ :: _, h => h.elim
 | _ :: _, [], h => h.elim
 | p :: r, v :: s, h => by
  obtain ⟨a, b⟩ := FitL.ok h.2
  refine ⟨by rw [List.length_cons, List.length_cons, a], fun i x y hi => ?_⟩
  cases i with
  | zero =>
   simp only [List.getElem?_cons_zero, Option.some.injEq] at hi
   subst hi
   exact h.1
  | succ i => exact b i x y (by simpa using hi)
theorem rep1 {na a : Nat} {α : Nat → Int} {k m lo hi v : Int} (ha : a < na) (e : k + m * α a = v) (h1 : lo ≤ v) (h2 : v ≤ hi) : Ck.Rep na α ⟨⟨k, [(a, m)]⟩, lo, hi⟩ v :=
 ⟨fun p hp => by rw [List.mem_singleton] at hp; subst hp; exact ha, by simp only [Ck.Lf.ev, Ck.evl]; omega, h1, h2⟩
theorem rep2 {na a b : Nat} {α : Nat → Int} {k m q lo hi v : Int} (ha : a < na) (hb : b < na) (e : k + m * α a + q * α b = v) (h1 : lo ≤ v) (h2 : v ≤ hi) : Ck.Rep na α ⟨⟨k, [(a, m), (b, q)]⟩, lo, hi⟩ v :=
 ⟨fun p hp => by
  rcases List.mem_cons.1 hp with rfl | hp
  ·exact ha
  ·rw [List.mem_singleton] at hp; subst hp; exact hb, by simp only [Ck.Lf.ev, Ck.evl]; omega, h1, h2⟩
noncomputable abbrev SM : FuncId → List V → H → Option (V × H) := sem (mkX Tryz.prog) 100000 99
noncomputable abbrev SM8 : FuncId → List V → H → Option (V × H) := sem (mkX Tryz.prog) 100000 98
theorem vS0 (σ : Nat → Int) (z : Int) : ∀ c, c < 16 → valL σ (sS0 c z) = sS0 c (vi σ z) := all16 rfl rfl rfl rfl rfl rfl rfl rfl rfl rfl rfl rfl rfl rfl rfl rfl
theorem vA0 (σ : Nat → Int) (x d : Int) : valL σ (tA0 x d) = tA0 (vi σ x) (vi σ d) := rfl
theorem vC0 (σ : Nat → Int) (a b : Int) : ∀ c, c < 16 → valL σ (tC0 c a b) = tC0 c (vi σ a) (vi σ b) := all16 rfl rfl rfl rfl rfl rfl rfl rfl rfl rfl rfl rfl rfl rfl rfl rfl
theorem vD0 (σ : Nat → Int) : valL σ tD0 = tD0 := rfl
theorem hA0 : ∀ c : Nat, c < 16 → ∀ {i0 v0 : Int}, 0 ≤ i0 → i0 ≤ 65535 → -9223372036854775808 ≤ v0 → v0 ≤ 9223372036854775807 → v0 % 16 = c → ∃ h', Chain SM (cA0 i0 v0) (Mt.h mU) h' ∧ Sub (Mt.h (mS0 c i0)) h' := fun c hc i0 v0 h1 h2 h3 h4 h5 => by
 obtain ⟨h', a, b⟩ := runC_ok lx Bodies.xc Bodies.tabOkS ((all16 qA0_0 qA0_1 qA0_2 qA0_3 qA0_4 qA0_5 qA0_6 qA0_7 qA0_8 qA0_9 qA0_10 qA0_11 qA0_12 qA0_13 qA0_14 qA0_15 : ∀ c, c < 16 → rA0 XZ Bodies.tabS c = true) c hc) (w := [i0, v0 / 16]) (l := [i0, v0]) (FitL.ok ⟨⟨h1, h2⟩, ⟨by omega, by omega⟩, trivial⟩)
  ⟨Ck.rep_atom (by decide) rfl h1 h2, rep1 (by decide) (show (c : Int) + 16 * (v0 / 16) = v0 by omega) h3 h4, trivial⟩
 refine ⟨h', ?_, ?_⟩
 ·rw [show (cA0 _ _).map (valC _) = cA0 _ _ from rfl, n00, n10] at a
  exact a
 ·have e := vS0 (fun i => [i0, v0].getD i 0) (.ofNat 18446745173221179392) c hc
  rw [n00] at e
  rw [show (mS0 c (.ofNat 18446745173221179392)).l = sS0 c (.ofNat 18446745173221179392) from rfl, e] at b
  exact b
theorem hB0 : ∀ c : Nat, c < 16 → ∀ {i0 s0 : Int}, 0 ≤ i0 → i0 ≤ 65535 → 1 ≤ s0 → s0 ≤ 1000 → ∃ h', Chain SM (cB0 i0 s0) (Mt.h ⟨6635, sS0 c i0⟩) h' ∧ Sub (Mt.h (mT0 c s0 (s0 + 1))) h' := fun c hc i0 s0 h1 h2 h3 h4 => by
 obtain ⟨h', a, b⟩ := runC_ok lx Bodies.xc Bodies.tabOkS ((all16 qB0_0 qB0_1 qB0_2 qB0_3 qB0_4 qB0_5 qB0_6 qB0_7 qB0_8 qB0_9 qB0_10 qB0_11 qB0_12 qB0_13 qB0_14 qB0_15 : ∀ c, c < 16 → rB0 XZ Bodies.tabS c = true) c hc) (w := [i0, s0]) (l := [i0, s0]) (FitL.ok ⟨⟨h1, h2⟩, ⟨h3, h4⟩, trivial⟩)
  ⟨Ck.rep_atom (by decide) rfl h1 h2, Ck.rep_atom (by decide) rfl h3 h4, trivial⟩
 refine ⟨h', ?_, ?_⟩
 ·have e := vS0 (fun i => [i0, s0].getD i 0) (.ofNat 18446745173221179392) c hc
  rw [n00] at e
  rw [show (cB0 _ _).map (valC _) = cB0 _ _ from rfl, n00, n10, e] at a
  exact a
 ·have e := vC0 (fun i => [i0, s0].getD i 0) (.ofNat 18446747372244434944) (.ofNat 18446747372244434945) c hc
  rw [n10, n11] at e
  rw [show (mT0 c (.ofNat 18446747372244434944) (.ofNat 18446747372244434945)).l = tA0 1 5 ++ tB0 ++ tC0 c (.ofNat 18446747372244434944) (.ofNat 18446747372244434945) ++ tD0 from rfl, valL, List.map_append, List.map_append, List.map_append] at b
  change Sub (Mt.h ⟨_, valL _ (tA0 1 5) ++ valL _ tB0 ++ valL _ (tC0 c (.ofNat 18446747372244434944) (.ofNat 18446747372244434945)) ++ valL _ tD0⟩) h' at b
  rw [e, vA0, vD0] at b
  exact b
theorem hC0 : ∀ c : Nat, c < 16 → ∀ {s0 t0 v0 d0 : Int}, 0 ≤ t0 → t0 ≤ 50 → t0 < s0 → s0 ≤ 1000 → 0 ≤ d0 → d0 ≤ 4294967295 → -9223372036854775808 ≤ v0 → v0 ≤ 9223372036854775807 → v0 % 16 = c →
  ∃ h', Chain SM (cC0 v0) (Mt.h ⟨7439, tA0 (t0 + 1) d0 ++ tC0 c s0 (s0 + 1) ++ tD0⟩) h' ∧ Sub (Mt.h (mZ0 (s0 - t0))) h' := fun c hc s0 t0 v0 d0 h1 h2 h3 h4 h5 h6 h7 h8 h9 => by
 obtain ⟨h', a, b⟩ := runC_ok lx Bodies.xc Bodies.tabOkS ((all16 qC0_0 qC0_1 qC0_2 qC0_3 qC0_4 qC0_5 qC0_6 qC0_7 qC0_8 qC0_9 qC0_10 qC0_11 qC0_12 qC0_13 qC0_14 qC0_15 : ∀ c, c < 16 → rC0 XZ Bodies.tabS c = true) c hc) (w := [t0, s0 - t0 - 1, v0 / 16, d0]) (l := [s0, t0, v0, s0 - t0 - 1, d0]) (FitL.ok ⟨⟨h1, h2⟩, ⟨by omega, by omega⟩, ⟨by omega, by omega⟩, ⟨h5, h6⟩, trivial⟩)
  ⟨rep2 (by decide) (by decide) (show 1 + 1 * t0 + 1 * (s0 - t0 - 1) = s0 by omega) (by omega) h4, Ck.rep_atom (by decide) rfl h1 h2, rep1 (by decide) (show (c : Int) + 16 * (v0 / 16) = v0 by omega) h7 h8, Ck.rep_atom (by decide) rfl (by omega) (by omega), Ck.rep_atom (by decide) rfl h5 h6, trivial⟩
 refine ⟨h', ?_, ?_⟩
 ·have e := vC0 (fun i => [s0, t0, v0, s0 - t0 - 1, d0].getD i 0) (.ofNat 18446745173221179392) (.ofNat 18446745173221179393) c hc
  rw [n00, n01] at e
  rw [show (cC0 _).map (valC _) = cC0 _ from rfl, n20, valL, List.map_append, List.map_append] at a
  change Chain _ _ (Mt.h ⟨_, valL _ (tA0 (.ofNat 18446747372244434945) (.ofNat 18446753969314201600)) ++ valL _ (tC0 c (.ofNat 18446745173221179392) (.ofNat 18446745173221179393)) ++ valL _ tD0⟩) h' at a
  rw [e, vA0, vD0, n11, n40] at a
  exact a
 ·rw [show valL (fun i => [s0, t0, v0, s0 - t0 - 1, d0].getD i 0) (mZ0 (.ofNat 18446751770290946049)).l = (mZ0 (vi (fun i => [s0, t0, v0, s0 - t0 - 1, d0].getD i 0) (.ofNat 18446751770290946049))).l from rfl, n31] at b
  rw [show s0 - t0 = s0 - t0 - 1 + 1 by omega]
  exact b
theorem hD0 : ∀ c : Nat, c < 16 → ∀ {s0 t0 v0 : Int}, 1 ≤ s0 → t0 ≤ 50 → s0 ≤ t0 → -9223372036854775808 ≤ v0 → v0 ≤ 9223372036854775807 → v0 % 16 = c →
  ∃ h', Chain SM (cD0 v0) (Mt.h ⟨7439, tA0 (t0 + 1) 3 ++ tC0 c s0 (s0 + 1) ++ tD0⟩) h' := fun c hc s0 t0 v0 h1 h2 h3 h7 h8 h9 => by
 obtain ⟨h', a, _⟩ := runC_ok lx Bodies.xc Bodies.tabOkS ((all16 qD0_0 qD0_1 qD0_2 qD0_3 qD0_4 qD0_5 qD0_6 qD0_7 qD0_8 qD0_9 qD0_10 qD0_11 qD0_12 qD0_13 qD0_14 qD0_15 : ∀ c, c < 16 → rD0 XZ Bodies.tabS c = true) c hc) (w := [s0, t0 - s0, v0 / 16]) (l := [s0, t0, v0, t0 - s0]) (FitL.ok ⟨⟨h1, by omega⟩, ⟨by omega, by omega⟩, ⟨by omega, by omega⟩, trivial⟩)
  ⟨Ck.rep_atom (by decide) rfl h1 (by omega), rep2 (by decide) (by decide) (show 0 + 1 * s0 + 1 * (t0 - s0) = t0 by omega) (by omega) h2, rep1 (by decide) (show (c : Int) + 16 * (v0 / 16) = v0 by omega) h7 h8, Ck.rep_atom (by decide) rfl (by omega) (by omega), trivial⟩
 refine ⟨h', ?_⟩
 have e := vC0 (fun i => [s0, t0, v0, t0 - s0].getD i 0) (.ofNat 18446745173221179392) (.ofNat 18446745173221179393) c hc
 rw [n00, n01] at e
 rw [show (cD0 _).map (valC _) = cD0 _ from rfl, n20, valL, List.map_append, List.map_append] at a
 change Chain _ _ (Mt.h ⟨_, valL _ (tA0 (.ofNat 18446747372244434945) 3) ++ valL _ (tC0 c (.ofNat 18446745173221179392) (.ofNat 18446745173221179393)) ++ valL _ tD0⟩) h' at a
 rw [e, vA0, vD0, n11] at a
 exact a
theorem hT0 {k : List (Nat × B)} {lo hi x : Int} (hk : ∀ σ : Nat → Int, valL σ k = k) (q : rT0 XZ Bodies.tabS k lo hi = true) (h1 : lo ≤ x) (h2 : x ≤ hi) : ∃ v h' N', SM 10 [.p 203 0, .a [z 0,z 0,z 0,z 0,z 0,w 3,w 0,.ns]] (Mt.h ⟨7439, tA0 x 3 ++ k ++ tD0⟩) = some (v, h') ∧ Sub (Mt.h ⟨N', tA0 (x + 1) 3 ++ k ++ tD0⟩) h' := by
 obtain ⟨h', a, b⟩ := runC_ok lx Bodies.xc Bodies.tabOkS q (w := [x]) (l := [x]) (FitL.ok ⟨⟨h1, h2⟩, trivial⟩) ⟨Ck.rep_atom (Nat.zero_lt_succ _) rfl h1 h2, trivial⟩
 rw [show cT.map (valC _) = cT from rfl, valL, List.map_append, List.map_append] at a
 rw [valL, List.map_append, List.map_append] at b
 change Chain _ _ (Mt.h ⟨_, valL _ (tA0 (.ofNat 18446745173221179392) 3) ++ valL _ k ++ valL _ tD0⟩) h' at a
 change Sub (Mt.h ⟨_, valL _ (tA0 (.ofNat 18446745173221179393) 3) ++ valL _ k ++ valL _ tD0⟩) h' at b
 rw [hk, vA0, vD0, n00] at a
 rw [hk, vA0, vD0, n01] at b
 obtain ⟨h1, e, rfl⟩ := a
 exact ⟨_, _, _, e, b⟩
theorem hM0 : ∃ v h' N', SM 10 [.p 203 0, .a [z 0,z 0,z 0,z 0,z 0,w 3,w 0,.ns]] (Mt.h ⟨7439, tA0 2 3 ++ tB1 ++ tD0⟩) = some (v, h') ∧ Sub (Mt.h ⟨N', tA0 3 3 ++ tB1 ++ tD0⟩) h' := by
 obtain ⟨h', ⟨h1, e, rfl⟩, b⟩ := runC_ok lx Bodies.xc Bodies.tabOkS qM0 (w := []) (l := []) (FitL.ok trivial) trivial
 exact ⟨_, _, _, e, b⟩
theorem hL00 : ∃ v h' N', SM 10 [.p 203 0, .a [z 0,z 0,z 0,z 0,z 0,w 3,w 0,.ns]] (Mt.h ⟨7439, tA0 1 5 ++ tB0 ++ tD0⟩) = some (v, h') ∧ Sub (Mt.h ⟨N', tA0 2 3 ++ tB1 ++ tD0⟩) h' := by
 obtain ⟨h', ⟨h1, e, rfl⟩, b⟩ := runC_ok lx Bodies.xc Bodies.tabOkS qL00 (w := []) (l := []) (FitL.ok trivial) trivial
 exact ⟨_, _, _, e, b⟩
theorem hL01 : ∃ v h' N', SM 10 [.p 203 0, .a [z 0,z 0,z 0,z 0,z 0,w 3,w 0,.ns]] (Mt.h ⟨7439, tA0 3 3 ++ tB1 ++ tD0⟩) = some (v, h') ∧ Sub (Mt.h ⟨N', tA0 4 3 ++ tB2 ++ tD0⟩) h' := by
 obtain ⟨h', ⟨h1, e, rfl⟩, b⟩ := runC_ok lx Bodies.xc Bodies.tabOkS qL01 (w := []) (l := []) (FitL.ok trivial) trivial
 exact ⟨_, _, _, e, b⟩
theorem hL02 : ∃ v h' N', SM 10 [.p 203 0, .a [z 0,z 0,z 0,z 0,z 0,w 3,w 0,.ns]] (Mt.h ⟨7439, tA0 7 3 ++ tB2 ++ tD0⟩) = some (v, h') ∧ Sub (Mt.h ⟨N', tA0 8 3 ++ tB3 ++ tD0⟩) h' := by
 obtain ⟨h', ⟨h1, e, rfl⟩, b⟩ := runC_ok lx Bodies.xc Bodies.tabOkS qL02 (w := []) (l := []) (FitL.ok trivial) trivial
 exact ⟨_, _, _, e, b⟩
theorem hL03 : ∃ v h' N', SM 10 [.p 203 0, .a [z 0,z 0,z 0,z 0,z 0,w 3,w 0,.ns]] (Mt.h ⟨7439, tA0 15 3 ++ tB3 ++ tD0⟩) = some (v, h') ∧ Sub (Mt.h ⟨N', tA0 16 3 ++ tB4 ++ tD0⟩) h' := by
 obtain ⟨h', ⟨h1, e, rfl⟩, b⟩ := runC_ok lx Bodies.xc Bodies.tabOkS qL03 (w := []) (l := []) (FitL.ok trivial) trivial
 exact ⟨_, _, _, e, b⟩
theorem hL04 : ∃ v h' N', SM 10 [.p 203 0, .a [z 0,z 0,z 0,z 0,z 0,w 3,w 0,.ns]] (Mt.h ⟨7439, tA0 31 3 ++ tB4 ++ tD0⟩) = some (v, h') ∧ Sub (Mt.h ⟨N', tA0 32 3 ++ tB5 ++ tD0⟩) h' := by
 obtain ⟨h', ⟨h1, e, rfl⟩, b⟩ := runC_ok lx Bodies.xc Bodies.tabOkS qL04 (w := []) (l := []) (FitL.ok trivial) trivial
 exact ⟨_, _, _, e, b⟩
def stB (i : Nat) : List (Nat × B) := if i = 0 then tB0 else if i < 3 then tB1 else if i < 7 then tB2 else if i < 15 then tB3 else if i < 31 then tB4 else tB5
def drw (i : Nat) : Int := if i = 0 then 5 else 3
theorem tick0 (i : Nat) (hi : i < 50) : ∃ v h' N', SM 10 [.p 203 0, .a [z 0,z 0,z 0,z 0,z 0,w 3,w 0,.ns]] (Mt.h ⟨7439, tA0 (i + 1) (drw i) ++ stB i ++ tD0⟩) = some (v, h') ∧ Sub (Mt.h ⟨N', tA0 ((i + 1 : Nat) + 1) (drw (i + 1)) ++ stB (i + 1) ++ tD0⟩) h' := by
 have e0 : drw (i + 1) = 3 := if_neg (by omega)
 rw [e0]
 have c : i = 0 ∨ i = 2 ∨ i = 6 ∨ i = 14 ∨ i = 30 ∨ (i ≠ 0 ∧ ((1 ≤ i ∧ i < 2) ∨ (3 ≤ i ∧ i < 6) ∨ (7 ≤ i ∧ i < 14) ∨ (15 ≤ i ∧ i < 30) ∨ (31 ≤ i ∧ i < 50))) := by omega
 rcases c with rfl | rfl | rfl | rfl | rfl | ⟨h0, c⟩
 ·exact hL00
 ·exact hL01
 ·exact hL02
 ·exact hL03
 ·exact hL04
 ·rw [show drw i = 3 from if_neg h0, show ((i + 1 : Nat) : Int) + 1 = (i : Int) + 1 + 1 by omega]
  rcases c with c | c | c | c | c
  ·rw [show stB i = tB1 by unfold stB; rw [if_neg (by omega), if_pos (by omega)], show stB (i + 1) = tB1 by unfold stB; rw [if_neg (by omega), if_pos (by omega)]]
   obtain rfl : i = 1 := by omega
   exact hM0
  ·rw [show stB i = tB2 by unfold stB; rw [if_neg (by omega), if_neg (by omega), if_pos (by omega)], show stB (i + 1) = tB2 by unfold stB; rw [if_neg (by omega), if_neg (by omega), if_pos (by omega)]]
   exact hT0 (fun _ => rfl) qT02 (by omega) (by omega)
  ·rw [show stB i = tB3 by unfold stB; rw [if_neg (by omega), if_neg (by omega), if_neg (by omega), if_pos (by omega)], show stB (i + 1) = tB3 by unfold stB; rw [if_neg (by omega), if_neg (by omega), if_neg (by omega), if_pos (by omega)]]
   exact hT0 (fun _ => rfl) qT03 (by omega) (by omega)
  ·rw [show stB i = tB4 by unfold stB; rw [if_neg (by omega), if_neg (by omega), if_neg (by omega), if_neg (by omega), if_pos (by omega)], show stB (i + 1) = tB4 by unfold stB; rw [if_neg (by omega), if_neg (by omega), if_neg (by omega), if_neg (by omega), if_pos (by omega)]]
   exact hT0 (fun _ => rfl) qT04 (by omega) (by omega)
  ·rw [show stB i = tB5 by unfold stB; rw [if_neg (by omega), if_neg (by omega), if_neg (by omega), if_neg (by omega), if_neg (by omega)], show stB (i + 1) = tB5 by unfold stB; rw [if_neg (by omega), if_neg (by omega), if_neg (by omega), if_neg (by omega), if_neg (by omega)]]
   exact hT0 (fun _ => rfl) qT05 (by omega) (by omega)
theorem vS1 (σ : Nat → Int) (z : Int) : ∀ c, c < 16 → valL σ (sS1 c z) = sS1 c (vi σ z) := all16 rfl rfl rfl rfl rfl rfl rfl rfl rfl rfl rfl rfl rfl rfl rfl rfl
theorem vA1 (σ : Nat → Int) (x d : Int) : valL σ (tA1 x d) = tA1 (vi σ x) (vi σ d) := rfl
theorem vC1 (σ : Nat → Int) (a b : Int) : ∀ c, c < 16 → valL σ (tC1 c a b) = tC1 c (vi σ a) (vi σ b) := all16 rfl rfl rfl rfl rfl rfl rfl rfl rfl rfl rfl rfl rfl rfl rfl rfl
theorem vD1 (σ : Nat → Int) : valL σ tD1 = tD1 := rfl
theorem hA1 : ∀ c : Nat, c < 16 → ∀ {i0 v0 : Int}, 0 ≤ i0 → i0 ≤ 65535 → -9223372036854775808 ≤ v0 → v0 ≤ 9223372036854775807 → v0 % 16 = c → ∃ h', Chain SM (cA1 i0 v0) (Mt.h mU) h' ∧ Sub (Mt.h (mS1 c i0)) h' := fun c hc i0 v0 h1 h2 h3 h4 h5 => by
 obtain ⟨h', a, b⟩ := runC_ok lx Bodies.xc Bodies.tabOkS ((all16 qA1_0 qA1_1 qA1_2 qA1_3 qA1_4 qA1_5 qA1_6 qA1_7 qA1_8 qA1_9 qA1_10 qA1_11 qA1_12 qA1_13 qA1_14 qA1_15 : ∀ c, c < 16 → rA1 XZ Bodies.tabS c = true) c hc) (w := [i0, v0 / 16]) (l := [i0, v0]) (FitL.ok ⟨⟨h1, h2⟩, ⟨by omega, by omega⟩, trivial⟩)
  ⟨Ck.rep_atom (by decide) rfl h1 h2, rep1 (by decide) (show (c : Int) + 16 * (v0 / 16) = v0 by omega) h3 h4, trivial⟩
 refine ⟨h', ?_, ?_⟩
 ·rw [show (cA1 _ _).map (valC _) = cA1 _ _ from rfl, n00, n10] at a
  exact a
 ·have e := vS1 (fun i => [i0, v0].getD i 0) (.ofNat 18446745173221179392) c hc
  rw [n00] at e
  rw [show (mS1 c (.ofNat 18446745173221179392)).l = sS1 c (.ofNat 18446745173221179392) from rfl, e] at b
  exact b
theorem hB1 : ∀ c : Nat, c < 16 → ∀ {i0 s0 : Int}, 0 ≤ i0 → i0 ≤ 65535 → 1 ≤ s0 → s0 ≤ 1000 → ∃ h', Chain SM (cB1 i0 s0) (Mt.h ⟨6636, sS1 c i0⟩) h' ∧ Sub (Mt.h (mT1 c s0 (s0 + 1))) h' := fun c hc i0 s0 h1 h2 h3 h4 => by
 obtain ⟨h', a, b⟩ := runC_ok lx Bodies.xc Bodies.tabOkS ((all16 qB1_0 qB1_1 qB1_2 qB1_3 qB1_4 qB1_5 qB1_6 qB1_7 qB1_8 qB1_9 qB1_10 qB1_11 qB1_12 qB1_13 qB1_14 qB1_15 : ∀ c, c < 16 → rB1 XZ Bodies.tabS c = true) c hc) (w := [i0, s0]) (l := [i0, s0]) (FitL.ok ⟨⟨h1, h2⟩, ⟨h3, h4⟩, trivial⟩)
  ⟨Ck.rep_atom (by decide) rfl h1 h2, Ck.rep_atom (by decide) rfl h3 h4, trivial⟩
 refine ⟨h', ?_, ?_⟩
 ·have e := vS1 (fun i => [i0, s0].getD i 0) (.ofNat 18446745173221179392) c hc
  rw [n00] at e
  rw [show (cB1 _ _).map (valC _) = cB1 _ _ from rfl, n00, n10, e] at a
  exact a
 ·have e := vC1 (fun i => [i0, s0].getD i 0) (.ofNat 18446747372244434944) (.ofNat 18446747372244434945) c hc
  rw [n10, n11] at e
  rw [show (mT1 c (.ofNat 18446747372244434944) (.ofNat 18446747372244434945)).l = tA1 1 5 ++ tB0 ++ tC1 c (.ofNat 18446747372244434944) (.ofNat 18446747372244434945) ++ tD1 from rfl, valL, List.map_append, List.map_append, List.map_append] at b
  change Sub (Mt.h ⟨_, valL _ (tA1 1 5) ++ valL _ tB0 ++ valL _ (tC1 c (.ofNat 18446747372244434944) (.ofNat 18446747372244434945)) ++ valL _ tD1⟩) h' at b
  rw [e, vA1, vD1] at b
  exact b
theorem hC1 : ∀ c : Nat, c < 16 → ∀ {s0 t0 v0 d0 : Int}, 0 ≤ t0 → t0 ≤ 50 → t0 < s0 → s0 ≤ 1000 → 0 ≤ d0 → d0 ≤ 4294967295 → -9223372036854775808 ≤ v0 → v0 ≤ 9223372036854775807 → v0 % 16 = c →
  ∃ h', Chain SM (cC1 v0) (Mt.h ⟨7440, tA1 (t0 + 1) d0 ++ tC1 c s0 (s0 + 1) ++ tD1⟩) h' ∧ Sub (Mt.h (mZ1 (s0 - t0))) h' := fun c hc s0 t0 v0 d0 h1 h2 h3 h4 h5 h6 h7 h8 h9 => by
 obtain ⟨h', a, b⟩ := runC_ok lx Bodies.xc Bodies.tabOkS ((all16 qC1_0 qC1_1 qC1_2 qC1_3 qC1_4 qC1_5 qC1_6 qC1_7 qC1_8 qC1_9 qC1_10 qC1_11 qC1_12 qC1_13 qC1_14 qC1_15 : ∀ c, c < 16 → rC1 XZ Bodies.tabS c = true) c hc) (w := [t0, s0 - t0 - 1, v0 / 16, d0]) (l := [s0, t0, v0, s0 - t0 - 1, d0]) (FitL.ok ⟨⟨h1, h2⟩, ⟨by omega, by omega⟩, ⟨by omega, by omega⟩, ⟨h5, h6⟩, trivial⟩)
  ⟨rep2 (by decide) (by decide) (show 1 + 1 * t0 + 1 * (s0 - t0 - 1) = s0 by omega) (by omega) h4, Ck.rep_atom (by decide) rfl h1 h2, rep1 (by decide) (show (c : Int) + 16 * (v0 / 16) = v0 by omega) h7 h8, Ck.rep_atom (by decide) rfl (by omega) (by omega), Ck.rep_atom (by decide) rfl h5 h6, trivial⟩
 refine ⟨h', ?_, ?_⟩
 ·have e := vC1 (fun i => [s0, t0, v0, s0 - t0 - 1, d0].getD i 0) (.ofNat 18446745173221179392) (.ofNat 18446745173221179393) c hc
  rw [n00, n01] at e
  rw [show (cC1 _).map (valC _) = cC1 _ from rfl, n20, valL, List.map_append, List.map_append] at a
  change Chain _ _ (Mt.h ⟨_, valL _ (tA1 (.ofNat 18446747372244434945) (.ofNat 18446753969314201600)) ++ valL _ (tC1 c (.ofNat 18446745173221179392) (.ofNat 18446745173221179393)) ++ valL _ tD1⟩) h' at a
  rw [e, vA1, vD1, n11, n40] at a
  exact a
 ·rw [show valL (fun i => [s0, t0, v0, s0 - t0 - 1, d0].getD i 0) (mZ1 (.ofNat 18446751770290946049)).l = (mZ1 (vi (fun i => [s0, t0, v0, s0 - t0 - 1, d0].getD i 0) (.ofNat 18446751770290946049))).l from rfl, n31] at b
  rw [show s0 - t0 = s0 - t0 - 1 + 1 by omega]
  exact b
theorem hD1 : ∀ c : Nat, c < 16 → ∀ {s0 t0 v0 : Int}, 1 ≤ s0 → t0 ≤ 50 → s0 ≤ t0 → -9223372036854775808 ≤ v0 → v0 ≤ 9223372036854775807 → v0 % 16 = c →
  ∃ h', Chain SM (cD1 v0) (Mt.h ⟨7440, tA1 (t0 + 1) 3 ++ tC1 c s0 (s0 + 1) ++ tD1⟩) h' := fun c hc s0 t0 v0 h1 h2 h3 h7 h8 h9 => by
 obtain ⟨h', a, _⟩ := runC_ok lx Bodies.xc Bodies.tabOkS ((all16 qD1_0 qD1_1 qD1_2 qD1_3 qD1_4 qD1_5 qD1_6 qD1_7 qD1_8 qD1_9 qD1_10 qD1_11 qD1_12 qD1_13 qD1_14 qD1_15 : ∀ c, c < 16 → rD1 XZ Bodies.tabS c = true) c hc) (w := [s0, t0 - s0, v0 / 16]) (l := [s0, t0, v0, t0 - s0]) (FitL.ok ⟨⟨h1, by omega⟩, ⟨by omega, by omega⟩, ⟨by omega, by omega⟩, trivial⟩)
  ⟨Ck.rep_atom (by decide) rfl h1 (by omega), rep2 (by decide) (by decide) (show 0 + 1 * s0 + 1 * (t0 - s0) = t0 by omega) (by omega) h2, rep1 (by decide) (show (c : Int) + 16 * (v0 / 16) = v0 by omega) h7 h8, Ck.rep_atom (by decide) rfl (by omega) (by omega), trivial⟩
 refine ⟨h', ?_⟩
 have e := vC1 (fun i => [s0, t0, v0, t0 - s0].getD i 0) (.ofNat 18446745173221179392) (.ofNat 18446745173221179393) c hc
 rw [n00, n01] at e
 rw [show (cD1 _).map (valC _) = cD1 _ from rfl, n20, valL, List.map_append, List.map_append] at a
 change Chain _ _ (Mt.h ⟨_, valL _ (tA1 (.ofNat 18446747372244434945) 3) ++ valL _ (tC1 c (.ofNat 18446745173221179392) (.ofNat 18446745173221179393)) ++ valL _ tD1⟩) h' at a
 rw [e, vA1, vD1, n11] at a
 exact a
theorem hT1 {k : List (Nat × B)} {lo hi x : Int} (hk : ∀ σ : Nat → Int, valL σ k = k) (q : rT1 XZ Bodies.tabS k lo hi = true) (h1 : lo ≤ x) (h2 : x ≤ hi) : ∃ v h' N', SM 10 [.p 203 0, .a [z 0,z 0,z 0,z 0,z 0,w 3,w 0,.ns]] (Mt.h ⟨7440, tA1 x 3 ++ k ++ tD1⟩) = some (v, h') ∧ Sub (Mt.h ⟨N', tA1 (x + 1) 3 ++ k ++ tD1⟩) h' := by
 obtain ⟨h', a, b⟩ := runC_ok lx Bodies.xc Bodies.tabOkS q (w := [x]) (l := [x]) (FitL.ok ⟨⟨h1, h2⟩, trivial⟩) ⟨Ck.rep_atom (Nat.zero_lt_succ _) rfl h1 h2, trivial⟩
 rw [show cT.map (valC _) = cT from rfl, valL, List.map_append, List.map_append] at a
 rw [valL, List.map_append, List.map_append] at b
 change Chain _ _ (Mt.h ⟨_, valL _ (tA1 (.ofNat 18446745173221179392) 3) ++ valL _ k ++ valL _ tD1⟩) h' at a
 change Sub (Mt.h ⟨_, valL _ (tA1 (.ofNat 18446745173221179393) 3) ++ valL _ k ++ valL _ tD1⟩) h' at b
 rw [hk, vA1, vD1, n00] at a
 rw [hk, vA1, vD1, n01] at b
 obtain ⟨h1, e, rfl⟩ := a
 exact ⟨_, _, _, e, b⟩
theorem hM1 : ∃ v h' N', SM 10 [.p 203 0, .a [z 0,z 0,z 0,z 0,z 0,w 3,w 0,.ns]] (Mt.h ⟨7440, tA1 2 3 ++ tB1 ++ tD1⟩) = some (v, h') ∧ Sub (Mt.h ⟨N', tA1 3 3 ++ tB1 ++ tD1⟩) h' := by
 obtain ⟨h', ⟨h1, e, rfl⟩, b⟩ := runC_ok lx Bodies.xc Bodies.tabOkS qM1 (w := []) (l := []) (FitL.ok trivial) trivial
 exact ⟨_, _, _, e, b⟩
theorem hL10 : ∃ v h' N', SM 10 [.p 203 0, .a [z 0,z 0,z 0,z 0,z 0,w 3,w 0,.ns]] (Mt.h ⟨7440, tA1 1 5 ++ tB0 ++ tD1⟩) = some (v, h') ∧ Sub (Mt.h ⟨N', tA1 2 3 ++ tB1 ++ tD1⟩) h' := by
 obtain ⟨h', ⟨h1, e, rfl⟩, b⟩ := runC_ok lx Bodies.xc Bodies.tabOkS qL10 (w := []) (l := []) (FitL.ok trivial) trivial
 exact ⟨_, _, _, e, b⟩
theorem hL11 : ∃ v h' N', SM 10 [.p 203 0, .a [z 0,z 0,z 0,z 0,z 0,w 3,w 0,.ns]] (Mt.h ⟨7440, tA1 3 3 ++ tB1 ++ tD1⟩) = some (v, h') ∧ Sub (Mt.h ⟨N', tA1 4 3 ++ tB2 ++ tD1⟩) h' := by
 obtain ⟨h', ⟨h1, e, rfl⟩, b⟩ := runC_ok lx Bodies.xc Bodies.tabOkS qL11 (w := []) (l := []) (FitL.ok trivial) trivial
 exact ⟨_, _, _, e, b⟩
theorem hL12 : ∃ v h' N', SM 10 [.p 203 0, .a [z 0,z 0,z 0,z 0,z 0,w 3,w 0,.ns]] (Mt.h ⟨7440, tA1 7 3 ++ tB2 ++ tD1⟩) = some (v, h') ∧ Sub (Mt.h ⟨N', tA1 8 3 ++ tB3 ++ tD1⟩) h' := by
 obtain ⟨h', ⟨h1, e, rfl⟩, b⟩ := runC_ok lx Bodies.xc Bodies.tabOkS qL12 (w := []) (l := []) (FitL.ok trivial) trivial
 exact ⟨_, _, _, e, b⟩
theorem hL13 : ∃ v h' N', SM 10 [.p 203 0, .a [z 0,z 0,z 0,z 0,z 0,w 3,w 0,.ns]] (Mt.h ⟨7440, tA1 15 3 ++ tB3 ++ tD1⟩) = some (v, h') ∧ Sub (Mt.h ⟨N', tA1 16 3 ++ tB4 ++ tD1⟩) h' := by
 obtain ⟨h', ⟨h1, e, rfl⟩, b⟩ := runC_ok lx Bodies.xc Bodies.tabOkS qL13 (w := []) (l := []) (FitL.ok trivial) trivial
 exact ⟨_, _, _, e, b⟩
theorem hL14 : ∃ v h' N', SM 10 [.p 203 0, .a [z 0,z 0,z 0,z 0,z 0,w 3,w 0,.ns]] (Mt.h ⟨7440, tA1 31 3 ++ tB4 ++ tD1⟩) = some (v, h') ∧ Sub (Mt.h ⟨N', tA1 32 3 ++ tB5 ++ tD1⟩) h' := by
 obtain ⟨h', ⟨h1, e, rfl⟩, b⟩ := runC_ok lx Bodies.xc Bodies.tabOkS qL14 (w := []) (l := []) (FitL.ok trivial) trivial
 exact ⟨_, _, _, e, b⟩
theorem tick1 (i : Nat) (hi : i < 50) : ∃ v h' N', SM 10 [.p 203 0, .a [z 0,z 0,z 0,z 0,z 0,w 3,w 0,.ns]] (Mt.h ⟨7440, tA1 (i + 1) (drw i) ++ stB i ++ tD1⟩) = some (v, h') ∧ Sub (Mt.h ⟨N', tA1 ((i + 1 : Nat) + 1) (drw (i + 1)) ++ stB (i + 1) ++ tD1⟩) h' := by
 have e0 : drw (i + 1) = 3 := if_neg (by omega)
 rw [e0]
 have c : i = 0 ∨ i = 2 ∨ i = 6 ∨ i = 14 ∨ i = 30 ∨ (i ≠ 0 ∧ ((1 ≤ i ∧ i < 2) ∨ (3 ≤ i ∧ i < 6) ∨ (7 ≤ i ∧ i < 14) ∨ (15 ≤ i ∧ i < 30) ∨ (31 ≤ i ∧ i < 50))) := by omega
 rcases c with rfl | rfl | rfl | rfl | rfl | ⟨h0, c⟩
 ·exact hL10
 ·exact hL11
 ·exact hL12
 ·exact hL13
 ·exact hL14
 ·rw [show drw i = 3 from if_neg h0, show ((i + 1 : Nat) : Int) + 1 = (i : Int) + 1 + 1 by omega]
  rcases c with c | c | c | c | c
  ·rw [show stB i = tB1 by unfold stB; rw [if_neg (by omega), if_pos (by omega)], show stB (i + 1) = tB1 by unfold stB; rw [if_neg (by omega), if_pos (by omega)]]
   obtain rfl : i = 1 := by omega
   exact hM1
  ·rw [show stB i = tB2 by unfold stB; rw [if_neg (by omega), if_neg (by omega), if_pos (by omega)], show stB (i + 1) = tB2 by unfold stB; rw [if_neg (by omega), if_neg (by omega), if_pos (by omega)]]
   exact hT1 (fun _ => rfl) qT12 (by omega) (by omega)
  ·rw [show stB i = tB3 by unfold stB; rw [if_neg (by omega), if_neg (by omega), if_neg (by omega), if_pos (by omega)], show stB (i + 1) = tB3 by unfold stB; rw [if_neg (by omega), if_neg (by omega), if_neg (by omega), if_pos (by omega)]]
   exact hT1 (fun _ => rfl) qT13 (by omega) (by omega)
  ·rw [show stB i = tB4 by unfold stB; rw [if_neg (by omega), if_neg (by omega), if_neg (by omega), if_neg (by omega), if_pos (by omega)], show stB (i + 1) = tB4 by unfold stB; rw [if_neg (by omega), if_neg (by omega), if_neg (by omega), if_neg (by omega), if_pos (by omega)]]
   exact hT1 (fun _ => rfl) qT14 (by omega) (by omega)
  ·rw [show stB i = tB5 by unfold stB; rw [if_neg (by omega), if_neg (by omega), if_neg (by omega), if_neg (by omega), if_neg (by omega)], show stB (i + 1) = tB5 by unfold stB; rw [if_neg (by omega), if_neg (by omega), if_neg (by omega), if_neg (by omega), if_neg (by omega)]]
   exact hT1 (fun _ => rfl) qT15 (by omega) (by omega)
theorem vS2 (σ : Nat → Int) (z : Int) : ∀ c, c < 16 → valL σ (sS2 c z) = sS2 c (vi σ z) := all16 rfl rfl rfl rfl rfl rfl rfl rfl rfl rfl rfl rfl rfl rfl rfl rfl
theorem vA2 (σ : Nat → Int) (x d : Int) : valL σ (tA2 x d) = tA2 (vi σ x) (vi σ d) := rfl
theorem vC2 (σ : Nat → Int) (a b : Int) : ∀ c, c < 16 → valL σ (tC2 c a b) = tC2 c (vi σ a) (vi σ b) := all16 rfl rfl rfl rfl rfl rfl rfl rfl rfl rfl rfl rfl rfl rfl rfl rfl
theorem vD2 (σ : Nat → Int) : valL σ tD2 = tD2 := rfl
theorem hA2 : ∀ c : Nat, c < 16 → ∀ {i0 v0 : Int}, 0 ≤ i0 → i0 ≤ 65535 → -9223372036854775808 ≤ v0 → v0 ≤ 9223372036854775807 → v0 % 16 = c → ∃ h', Chain SM (cA2 i0 v0) (Mt.h mU) h' ∧ Sub (Mt.h (mS2 c i0)) h' := fun c hc i0 v0 h1 h2 h3 h4 h5 => by
 obtain ⟨h', a, b⟩ := runC_ok lx Bodies.xc Bodies.tabOkS ((all16 qA2_0 qA2_1 qA2_2 qA2_3 qA2_4 qA2_5 qA2_6 qA2_7 qA2_8 qA2_9 qA2_10 qA2_11 qA2_12 qA2_13 qA2_14 qA2_15 : ∀ c, c < 16 → rA2 XZ Bodies.tabS c = true) c hc) (w := [i0, v0 / 16]) (l := [i0, v0]) (FitL.ok ⟨⟨h1, h2⟩, ⟨by omega, by omega⟩, trivial⟩)
  ⟨Ck.rep_atom (by decide) rfl h1 h2, rep1 (by decide) (show (c : Int) + 16 * (v0 / 16) = v0 by omega) h3 h4, trivial⟩
 refine ⟨h', ?_, ?_⟩
 ·rw [show (cA2 _ _).map (valC _) = cA2 _ _ from rfl, n00, n10] at a
  exact a
 ·have e := vS2 (fun i => [i0, v0].getD i 0) (.ofNat 18446745173221179392) c hc
  rw [n00] at e
  rw [show (mS2 c (.ofNat 18446745173221179392)).l = sS2 c (.ofNat 18446745173221179392) from rfl, e] at b
  exact b
theorem hB2 : ∀ c : Nat, c < 16 → ∀ {i0 s0 : Int}, 0 ≤ i0 → i0 ≤ 65535 → 1 ≤ s0 → s0 ≤ 1000 → ∃ h', Chain SM (cB2 i0 s0) (Mt.h ⟨6637, sS2 c i0⟩) h' ∧ Sub (Mt.h (mT2 c s0 (s0 + 1))) h' := fun c hc i0 s0 h1 h2 h3 h4 => by
 obtain ⟨h', a, b⟩ := runC_ok lx Bodies.xc Bodies.tabOkS ((all16 qB2_0 qB2_1 qB2_2 qB2_3 qB2_4 qB2_5 qB2_6 qB2_7 qB2_8 qB2_9 qB2_10 qB2_11 qB2_12 qB2_13 qB2_14 qB2_15 : ∀ c, c < 16 → rB2 XZ Bodies.tabS c = true) c hc) (w := [i0, s0]) (l := [i0, s0]) (FitL.ok ⟨⟨h1, h2⟩, ⟨h3, h4⟩, trivial⟩)
  ⟨Ck.rep_atom (by decide) rfl h1 h2, Ck.rep_atom (by decide) rfl h3 h4, trivial⟩
 refine ⟨h', ?_, ?_⟩
 ·have e := vS2 (fun i => [i0, s0].getD i 0) (.ofNat 18446745173221179392) c hc
  rw [n00] at e
  rw [show (cB2 _ _).map (valC _) = cB2 _ _ from rfl, n00, n10, e] at a
  exact a
 ·have e := vC2 (fun i => [i0, s0].getD i 0) (.ofNat 18446747372244434944) (.ofNat 18446747372244434945) c hc
  rw [n10, n11] at e
  rw [show (mT2 c (.ofNat 18446747372244434944) (.ofNat 18446747372244434945)).l = tA2 1 5 ++ tB0 ++ tC2 c (.ofNat 18446747372244434944) (.ofNat 18446747372244434945) ++ tD2 from rfl, valL, List.map_append, List.map_append, List.map_append] at b
  change Sub (Mt.h ⟨_, valL _ (tA2 1 5) ++ valL _ tB0 ++ valL _ (tC2 c (.ofNat 18446747372244434944) (.ofNat 18446747372244434945)) ++ valL _ tD2⟩) h' at b
  rw [e, vA2, vD2] at b
  exact b
theorem hC2 : ∀ c : Nat, c < 16 → ∀ {s0 t0 v0 d0 : Int}, 0 ≤ t0 → t0 ≤ 50 → t0 < s0 → s0 ≤ 1000 → 0 ≤ d0 → d0 ≤ 4294967295 → -9223372036854775808 ≤ v0 → v0 ≤ 9223372036854775807 → v0 % 16 = c →
  ∃ h', Chain SM (cC2 v0) (Mt.h ⟨7441, tA2 (t0 + 1) d0 ++ tC2 c s0 (s0 + 1) ++ tD2⟩) h' ∧ Sub (Mt.h (mZ2 (s0 - t0))) h' := fun c hc s0 t0 v0 d0 h1 h2 h3 h4 h5 h6 h7 h8 h9 => by
 obtain ⟨h', a, b⟩ := runC_ok lx Bodies.xc Bodies.tabOkS ((all16 qC2_0 qC2_1 qC2_2 qC2_3 qC2_4 qC2_5 qC2_6 qC2_7 qC2_8 qC2_9 qC2_10 qC2_11 qC2_12 qC2_13 qC2_14 qC2_15 : ∀ c, c < 16 → rC2 XZ Bodies.tabS c = true) c hc) (w := [t0, s0 - t0 - 1, v0 / 16, d0]) (l := [s0, t0, v0, s0 - t0 - 1, d0]) (FitL.ok ⟨⟨h1, h2⟩, ⟨by omega, by omega⟩, ⟨by omega, by omega⟩, ⟨h5, h6⟩, trivial⟩)
  ⟨rep2 (by decide) (by decide) (show 1 + 1 * t0 + 1 * (s0 - t0 - 1) = s0 by omega) (by omega) h4, Ck.rep_atom (by decide) rfl h1 h2, rep1 (by decide) (show (c : Int) + 16 * (v0 / 16) = v0 by omega) h7 h8, Ck.rep_atom (by decide) rfl (by omega) (by omega), Ck.rep_atom (by decide) rfl h5 h6, trivial⟩
 refine ⟨h', ?_, ?_⟩
 ·have e := vC2 (fun i => [s0, t0, v0, s0 - t0 - 1, d0].getD i 0) (.ofNat 18446745173221179392) (.ofNat 18446745173221179393) c hc
  rw [n00, n01] at e
  rw [show (cC2 _).map (valC _) = cC2 _ from rfl, n20, valL, List.map_append, List.map_append] at a
  change Chain _ _ (Mt.h ⟨_, valL _ (tA2 (.ofNat 18446747372244434945) (.ofNat 18446753969314201600)) ++ valL _ (tC2 c (.ofNat 18446745173221179392) (.ofNat 18446745173221179393)) ++ valL _ tD2⟩) h' at a
  rw [e, vA2, vD2, n11, n40] at a
  exact a
 ·rw [show valL (fun i => [s0, t0, v0, s0 - t0 - 1, d0].getD i 0) (mZ2 (.ofNat 18446751770290946049)).l = (mZ2 (vi (fun i => [s0, t0, v0, s0 - t0 - 1, d0].getD i 0) (.ofNat 18446751770290946049))).l from rfl, n31] at b
  rw [show s0 - t0 = s0 - t0 - 1 + 1 by omega]
  exact b
theorem hD2 : ∀ c : Nat, c < 16 → ∀ {s0 t0 v0 : Int}, 1 ≤ s0 → t0 ≤ 50 → s0 ≤ t0 → -9223372036854775808 ≤ v0 → v0 ≤ 9223372036854775807 → v0 % 16 = c →
  ∃ h', Chain SM (cD2 v0) (Mt.h ⟨7441, tA2 (t0 + 1) 3 ++ tC2 c s0 (s0 + 1) ++ tD2⟩) h' := fun c hc s0 t0 v0 h1 h2 h3 h7 h8 h9 => by
 obtain ⟨h', a, _⟩ := runC_ok lx Bodies.xc Bodies.tabOkS ((all16 qD2_0 qD2_1 qD2_2 qD2_3 qD2_4 qD2_5 qD2_6 qD2_7 qD2_8 qD2_9 qD2_10 qD2_11 qD2_12 qD2_13 qD2_14 qD2_15 : ∀ c, c < 16 → rD2 XZ Bodies.tabS c = true) c hc) (w := [s0, t0 - s0, v0 / 16]) (l := [s0, t0, v0, t0 - s0]) (FitL.ok ⟨⟨h1, by omega⟩, ⟨by omega, by omega⟩, ⟨by omega, by omega⟩, trivial⟩)
  ⟨Ck.rep_atom (by decide) rfl h1 (by omega), rep2 (by decide) (by decide) (show 0 + 1 * s0 + 1 * (t0 - s0) = t0 by omega) (by omega) h2, rep1 (by decide) (show (c : Int) + 16 * (v0 / 16) = v0 by omega) h7 h8, Ck.rep_atom (by decide) rfl (by omega) (by omega), trivial⟩
 refine ⟨h', ?_⟩
 have e := vC2 (fun i => [s0, t0, v0, t0 - s0].getD i 0) (.ofNat 18446745173221179392) (.ofNat 18446745173221179393) c hc
 rw [n00, n01] at e
 rw [show (cD2 _).map (valC _) = cD2 _ from rfl, n20, valL, List.map_append, List.map_append] at a
 change Chain _ _ (Mt.h ⟨_, valL _ (tA2 (.ofNat 18446747372244434945) 3) ++ valL _ (tC2 c (.ofNat 18446745173221179392) (.ofNat 18446745173221179393)) ++ valL _ tD2⟩) h' at a
 rw [e, vA2, vD2, n11] at a
 exact a
theorem hT2 {k : List (Nat × B)} {lo hi x : Int} (hk : ∀ σ : Nat → Int, valL σ k = k) (q : rT2 XZ Bodies.tabS k lo hi = true) (h1 : lo ≤ x) (h2 : x ≤ hi) : ∃ v h' N', SM 10 [.p 203 0, .a [z 0,z 0,z 0,z 0,z 0,w 3,w 0,.ns]] (Mt.h ⟨7441, tA2 x 3 ++ k ++ tD2⟩) = some (v, h') ∧ Sub (Mt.h ⟨N', tA2 (x + 1) 3 ++ k ++ tD2⟩) h' := by
 obtain ⟨h', a, b⟩ := runC_ok lx Bodies.xc Bodies.tabOkS q (w := [x]) (l := [x]) (FitL.ok ⟨⟨h1, h2⟩, trivial⟩) ⟨Ck.rep_atom (Nat.zero_lt_succ _) rfl h1 h2, trivial⟩
 rw [show cT.map (valC _) = cT from rfl, valL, List.map_append, List.map_append] at a
 rw [valL, List.map_append, List.map_append] at b
 change Chain _ _ (Mt.h ⟨_, valL _ (tA2 (.ofNat 18446745173221179392) 3) ++ valL _ k ++ valL _ tD2⟩) h' at a
 change Sub (Mt.h ⟨_, valL _ (tA2 (.ofNat 18446745173221179393) 3) ++ valL _ k ++ valL _ tD2⟩) h' at b
 rw [hk, vA2, vD2, n00] at a
 rw [hk, vA2, vD2, n01] at b
 obtain ⟨h1, e, rfl⟩ := a
 exact ⟨_, _, _, e, b⟩
theorem hM2 : ∃ v h' N', SM 10 [.p 203 0, .a [z 0,z 0,z 0,z 0,z 0,w 3,w 0,.ns]] (Mt.h ⟨7441, tA2 2 3 ++ tB1 ++ tD2⟩) = some (v, h') ∧ Sub (Mt.h ⟨N', tA2 3 3 ++ tB1 ++ tD2⟩) h' := by
 obtain ⟨h', ⟨h1, e, rfl⟩, b⟩ := runC_ok lx Bodies.xc Bodies.tabOkS qM2 (w := []) (l := []) (FitL.ok trivial) trivial
 exact ⟨_, _, _, e, b⟩
theorem hL20 : ∃ v h' N', SM 10 [.p 203 0, .a [z 0,z 0,z 0,z 0,z 0,w 3,w 0,.ns]] (Mt.h ⟨7441, tA2 1 5 ++ tB0 ++ tD2⟩) = some (v, h') ∧ Sub (Mt.h ⟨N', tA2 2 3 ++ tB1 ++ tD2⟩) h' := by
 obtain ⟨h', ⟨h1, e, rfl⟩, b⟩ := runC_ok lx Bodies.xc Bodies.tabOkS qL20 (w := []) (l := []) (FitL.ok trivial) trivial
 exact ⟨_, _, _, e, b⟩
theorem hL21 : ∃ v h' N', SM 10 [.p 203 0, .a [z 0,z 0,z 0,z 0,z 0,w 3,w 0,.ns]] (Mt.h ⟨7441, tA2 3 3 ++ tB1 ++ tD2⟩) = some (v, h') ∧ Sub (Mt.h ⟨N', tA2 4 3 ++ tB2 ++ tD2⟩) h' := by
 obtain ⟨h', ⟨h1, e, rfl⟩, b⟩ := runC_ok lx Bodies.xc Bodies.tabOkS qL21 (w := []) (l := []) (FitL.ok trivial) trivial
 exact ⟨_, _, _, e, b⟩
theorem hL22 : ∃ v h' N', SM 10 [.p 203 0, .a [z 0,z 0,z 0,z 0,z 0,w 3,w 0,.ns]] (Mt.h ⟨7441, tA2 7 3 ++ tB2 ++ tD2⟩) = some (v, h') ∧ Sub (Mt.h ⟨N', tA2 8 3 ++ tB3 ++ tD2⟩) h' := by
 obtain ⟨h', ⟨h1, e, rfl⟩, b⟩ := runC_ok lx Bodies.xc Bodies.tabOkS qL22 (w := []) (l := []) (FitL.ok trivial) trivial
 exact ⟨_, _, _, e, b⟩
theorem hL23 : ∃ v h' N', SM 10 [.p 203 0, .a [z 0,z 0,z 0,z 0,z 0,w 3,w 0,.ns]] (Mt.h ⟨7441, tA2 15 3 ++ tB3 ++ tD2⟩) = some (v, h') ∧ Sub (Mt.h ⟨N', tA2 16 3 ++ tB4 ++ tD2⟩) h' := by
 obtain ⟨h', ⟨h1, e, rfl⟩, b⟩ := runC_ok lx Bodies.xc Bodies.tabOkS qL23 (w := []) (l := []) (FitL.ok trivial) trivial
 exact ⟨_, _, _, e, b⟩
theorem hL24 : ∃ v h' N', SM 10 [.p 203 0, .a [z 0,z 0,z 0,z 0,z 0,w 3,w 0,.ns]] (Mt.h ⟨7441, tA2 31 3 ++ tB4 ++ tD2⟩) = some (v, h') ∧ Sub (Mt.h ⟨N', tA2 32 3 ++ tB5 ++ tD2⟩) h' := by
 obtain ⟨h', ⟨h1, e, rfl⟩, b⟩ := runC_ok lx Bodies.xc Bodies.tabOkS qL24 (w := []) (l := []) (FitL.ok trivial) trivial
 exact ⟨_, _, _, e, b⟩
theorem tick2 (i : Nat) (hi : i < 50) : ∃ v h' N', SM 10 [.p 203 0, .a [z 0,z 0,z 0,z 0,z 0,w 3,w 0,.ns]] (Mt.h ⟨7441, tA2 (i + 1) (drw i) ++ stB i ++ tD2⟩) = some (v, h') ∧ Sub (Mt.h ⟨N', tA2 ((i + 1 : Nat) + 1) (drw (i + 1)) ++ stB (i + 1) ++ tD2⟩) h' := by
 have e0 : drw (i + 1) = 3 := if_neg (by omega)
 rw [e0]
 have c : i = 0 ∨ i = 2 ∨ i = 6 ∨ i = 14 ∨ i = 30 ∨ (i ≠ 0 ∧ ((1 ≤ i ∧ i < 2) ∨ (3 ≤ i ∧ i < 6) ∨ (7 ≤ i ∧ i < 14) ∨ (15 ≤ i ∧ i < 30) ∨ (31 ≤ i ∧ i < 50))) := by omega
 rcases c with rfl | rfl | rfl | rfl | rfl | ⟨h0, c⟩
 ·exact hL20
 ·exact hL21
 ·exact hL22
 ·exact hL23
 ·exact hL24
 ·rw [show drw i = 3 from if_neg h0, show ((i + 1 : Nat) : Int) + 1 = (i : Int) + 1 + 1 by omega]
  rcases c with c | c | c | c | c
  ·rw [show stB i = tB1 by unfold stB; rw [if_neg (by omega), if_pos (by omega)], show stB (i + 1) = tB1 by unfold stB; rw [if_neg (by omega), if_pos (by omega)]]
   obtain rfl : i = 1 := by omega
   exact hM2
  ·rw [show stB i = tB2 by unfold stB; rw [if_neg (by omega), if_neg (by omega), if_pos (by omega)], show stB (i + 1) = tB2 by unfold stB; rw [if_neg (by omega), if_neg (by omega), if_pos (by omega)]]
   exact hT2 (fun _ => rfl) qT22 (by omega) (by omega)
  ·rw [show stB i = tB3 by unfold stB; rw [if_neg (by omega), if_neg (by omega), if_neg (by omega), if_pos (by omega)], show stB (i + 1) = tB3 by unfold stB; rw [if_neg (by omega), if_neg (by omega), if_neg (by omega), if_pos (by omega)]]
   exact hT2 (fun _ => rfl) qT23 (by omega) (by omega)
  ·rw [show stB i = tB4 by unfold stB; rw [if_neg (by omega), if_neg (by omega), if_neg (by omega), if_neg (by omega), if_pos (by omega)], show stB (i + 1) = tB4 by unfold stB; rw [if_neg (by omega), if_neg (by omega), if_neg (by omega), if_neg (by omega), if_pos (by omega)]]
   exact hT2 (fun _ => rfl) qT24 (by omega) (by omega)
  ·rw [show stB i = tB5 by unfold stB; rw [if_neg (by omega), if_neg (by omega), if_neg (by omega), if_neg (by omega), if_neg (by omega)], show stB (i + 1) = tB5 by unfold stB; rw [if_neg (by omega), if_neg (by omega), if_neg (by omega), if_neg (by omega), if_neg (by omega)]]
   exact hT2 (fun _ => rfl) qT25 (by omega) (by omega)
theorem hW : ∃ h', Chain SM cW (Mt.h ⟨16, []⟩) h' := by
 obtain ⟨h', a, _⟩ := runC_ok lx Bodies.xc Bodies.tabOkS qW (w := []) (l := []) (FitL.ok trivial) trivial
 exact ⟨h', a⟩
theorem hU2 : ∃ h', Chain SM8 cU2 (Mt.h ⟨16, []⟩) h' ∧ Sub (Mt.h mV2) h' := runC_ok lx Bodies.xc Bodies.tabOkS qU2 (w := []) (l := []) (FitL.ok trivial) trivial
theorem hU3 : ∃ h', Chain SM8 cU3 (Mt.h mV2) h' ∧ Sub (Mt.h mV3) h' := runC_ok lx Bodies.xc Bodies.tabOkS qU3 (w := []) (l := []) (FitL.ok trivial) trivial
theorem hU4 : ∃ h', Chain SM8 cU4 (Mt.h mV3) h' ∧ Sub (Mt.h mV4) h' := runC_ok lx Bodies.xc Bodies.tabOkS qU4 (w := []) (l := []) (FitL.ok trivial) trivial
theorem hU5 : ∃ h', Chain SM8 cU5 (Mt.h mV4) h' ∧ Sub (Mt.h mV5) h' := runC_ok lx Bodies.xc Bodies.tabOkS qU5 (w := []) (l := []) (FitL.ok trivial) trivial
theorem hU6 : ∃ h', Chain SM8 cU6 (Mt.h mV5) h' ∧ Sub (Mt.h mV6) h' := runC_ok lx Bodies.xc Bodies.tabOkS qU6 (w := []) (l := []) (FitL.ok trivial) trivial
theorem hU7 : ∃ h', Chain SM8 cU7 (Mt.h mV6) h' ∧ Sub (Mt.h mV7) h' := runC_ok lx Bodies.xc Bodies.tabOkS qU7 (w := []) (l := []) (FitL.ok trivial) trivial
theorem hU8 : ∃ h', Chain SM8 cU8 (Mt.h mV7) h' ∧ Sub (Mt.h mV8) h' := runC_ok lx Bodies.xc Bodies.tabOkS qU8 (w := []) (l := []) (FitL.ok trivial) trivial
theorem hU9 : ∃ h', Chain SM8 cU9 (Mt.h mV8) h' ∧ Sub (Mt.h mV9) h' := runC_ok lx Bodies.xc Bodies.tabOkS qU9 (w := []) (l := []) (FitL.ok trivial) trivial
theorem hU10 : ∃ h', Chain SM8 cU10 (Mt.h mV9) h' ∧ Sub (Mt.h mU) h' := runC_ok lx Bodies.xc Bodies.tabOkS qU10 (w := []) (l := []) (FitL.ok trivial) trivial
end Go.Proofs.YtpegimipbigmbaaGreatDoor.topAsks
