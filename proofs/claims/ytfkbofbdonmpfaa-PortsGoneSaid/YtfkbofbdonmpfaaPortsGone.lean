/- PortsGone returns true, whatever the integers. No condition. -/
import Derived.Test.YtfkbofbdonmpfaaRows
import Derived.Test.YtfkbofbdonmpfaaFactsYtfk
import Derived.Test.YtfkbofbdonmpfaaM2
import Derived.Test.YtfkbofbdonmpfaaM3
import Derived.Test.YtfkbofbdonmpfaaPortsGoneP
import Derived.Test.YtfkbofbdonmpfaaPortsGoneW0
import Derived.Test.YtfkbofbdonmpfaaPortsGoneW1
import Derived.Test.YtfkbofbdonmpfaaPortsGoneW2
import Derived.Test.YtfkbofbdonmpfaaPortsGoneW3
import Derived.Test.YtfkbofbdonmpfaaPortsGoneW4
import Derived.Test.YtfkbofbdonmpfaaPortsGoneW5
import Derived.Test.YtfkbofbdonmpfaaPortsGoneW6
import Derived.Test.YtfkbofbdonmpfaaPortsGoneW7
import Derived.Test.YtfkbofbdonmpfaaPortsGoneW8
import Derived.WalkKit
namespace Go.Proofs.Ytfkbofbdonmpfaa.portsGone
open Go.ChangeShapes Go.WideShapes Go.ChangeAt Go.RowKit Go.Am Go.Proofs.Ytfkbofbdonmpfaa.Facts

theorem walk (a0 : Int) (a1 : Int) (a2 : Int) (w0 : (Lit.int .i64 a0).wf = true) (w1 : (Lit.int .i64 a1).wf = true) (w2 : (Lit.int .i64 a2).wf = true) (w : World) : Calls Try.prog 6 #[.int .i64 a0, .int .i64 a1, .int .i64 a2] w fun e w' => e = .returned (.bool true) ∧ Below w.heap.size w w' :=
by
  by_cases h0 : a0 < 0
  · exact calls_namesT (l := [a0, a1, a2]) Bodies.xc Bodies.tabOk loran lofits (loall a0 a1 a2 (wf_i64 w0).1 (wf_i64 w0).2 (wf_i64 w1).1 (wf_i64 w1).2 (wf_i64 w2).1 (wf_i64 w2).2 h0) w fun k => by
      simp only [vals, val_nameV]
      rfl
  by_cases h1 : 30 < a0
  · exact calls_namesT (l := [a0, a1, a2]) Bodies.xc Bodies.tabOk hiran hifits (hiall a0 a1 a2 (wf_i64 w0).1 (wf_i64 w0).2 (wf_i64 w1).1 (wf_i64 w1).2 (wf_i64 w2).1 (wf_i64 w2).2 h1) w fun k => by
      simp only [vals, val_nameV]
      rfl
  have hn : a0 = 0 ∨ a0 = 1 ∨ a0 = 2 ∨ a0 = 3 ∨ a0 = 4 ∨ a0 = 5 ∨ a0 = 6 ∨ a0 = 7 ∨ a0 = 8 ∨ a0 = 9 ∨ a0 = 10 ∨ a0 = 11 ∨ a0 = 12 ∨ a0 = 13 ∨ a0 = 14 ∨ a0 = 15 ∨ a0 = 16 ∨ a0 = 17 ∨ a0 = 18 ∨ a0 = 19 ∨ a0 = 20 ∨ a0 = 21 ∨ a0 = 22 ∨ a0 = 23 ∨ a0 = 24 ∨ a0 = 25 ∨ a0 = 26 ∨ a0 = 27 ∨ a0 = 28 ∨ a0 = 29 ∨ a0 = 30 := by omega
  rcases hn with rfl | rfl | rfl | rfl | rfl | rfl | rfl | rfl | rfl | rfl | rfl | rfl | rfl | rfl | rfl | rfl | rfl | rfl | rfl | rfl | rfl | rfl | rfl | rfl | rfl | rfl | rfl | rfl | rfl | rfl | rfl
  · exact calls_namesT (l := [a1, a2]) Bodies.xc Bodies.tabOk n0ran n0fits (n0all a1 a2 (wf_i64 w1).1 (wf_i64 w1).2 (wf_i64 w2).1 (wf_i64 w2).2) w fun k => by
      simp only [vals, val_nameV]
      rfl
  · exact calls_namesT (l := [a1, a2]) Bodies.xc Bodies.tabOk n1ran n1fits (n1all a1 a2 (wf_i64 w1).1 (wf_i64 w1).2 (wf_i64 w2).1 (wf_i64 w2).2) w fun k => by
      simp only [vals, val_nameV]
      rfl
  · exact calls_namesT (l := [a1, a2]) Bodies.xc Bodies.tabOk n2ran n2fits (n2all a1 a2 (wf_i64 w1).1 (wf_i64 w1).2 (wf_i64 w2).1 (wf_i64 w2).2) w fun k => by
      simp only [vals, val_nameV]
      rfl
  · exact calls_namesT (l := [a1, a2]) Bodies.xc Bodies.tabOk n3ran n3fits (n3all a1 a2 (wf_i64 w1).1 (wf_i64 w1).2 (wf_i64 w2).1 (wf_i64 w2).2) w fun k => by
      simp only [vals, val_nameV]
      rfl
  · exact calls_namesT (l := [a1, a2]) Bodies.xc Bodies.tabOk n4ran n4fits (n4all a1 a2 (wf_i64 w1).1 (wf_i64 w1).2 (wf_i64 w2).1 (wf_i64 w2).2) w fun k => by
      simp only [vals, val_nameV]
      rfl
  · exact calls_namesT (l := [a1, a2]) Bodies.xc Bodies.tabOk n5ran n5fits (n5all a1 a2 (wf_i64 w1).1 (wf_i64 w1).2 (wf_i64 w2).1 (wf_i64 w2).2) w fun k => by
      simp only [vals, val_nameV]
      rfl
  · exact calls_namesT (l := [a1, a2]) Bodies.xc Bodies.tabOk n6ran n6fits (n6all a1 a2 (wf_i64 w1).1 (wf_i64 w1).2 (wf_i64 w2).1 (wf_i64 w2).2) w fun k => by
      simp only [vals, val_nameV]
      rfl
  · exact calls_namesT (l := [a1, a2]) Bodies.xc Bodies.tabOk n7ran n7fits (n7all a1 a2 (wf_i64 w1).1 (wf_i64 w1).2 (wf_i64 w2).1 (wf_i64 w2).2) w fun k => by
      simp only [vals, val_nameV]
      rfl
  · exact calls_namesT (l := [a1, a2]) Bodies.xc Bodies.tabOk n8ran n8fits (n8all a1 a2 (wf_i64 w1).1 (wf_i64 w1).2 (wf_i64 w2).1 (wf_i64 w2).2) w fun k => by
      simp only [vals, val_nameV]
      rfl
  · exact calls_namesT (l := [a1, a2]) Bodies.xc Bodies.tabOk n9ran n9fits (n9all a1 a2 (wf_i64 w1).1 (wf_i64 w1).2 (wf_i64 w2).1 (wf_i64 w2).2) w fun k => by
      simp only [vals, val_nameV]
      rfl
  · exact calls_namesT (l := [a1, a2]) Bodies.xc Bodies.tabOk n10ran n10fits (n10all a1 a2 (wf_i64 w1).1 (wf_i64 w1).2 (wf_i64 w2).1 (wf_i64 w2).2) w fun k => by
      simp only [vals, val_nameV]
      rfl
  · exact calls_namesT (l := [a1, a2]) Bodies.xc Bodies.tabOk n11ran n11fits (n11all a1 a2 (wf_i64 w1).1 (wf_i64 w1).2 (wf_i64 w2).1 (wf_i64 w2).2) w fun k => by
      simp only [vals, val_nameV]
      rfl
  · exact calls_namesT (l := [a1, a2]) Bodies.xc Bodies.tabOk n12ran n12fits (n12all a1 a2 (wf_i64 w1).1 (wf_i64 w1).2 (wf_i64 w2).1 (wf_i64 w2).2) w fun k => by
      simp only [vals, val_nameV]
      rfl
  · exact calls_namesT (l := [a1, a2]) Bodies.xc Bodies.tabOk n13ran n13fits (n13all a1 a2 (wf_i64 w1).1 (wf_i64 w1).2 (wf_i64 w2).1 (wf_i64 w2).2) w fun k => by
      simp only [vals, val_nameV]
      rfl
  · exact calls_namesT (l := [a1, a2]) Bodies.xc Bodies.tabOk n14ran n14fits (n14all a1 a2 (wf_i64 w1).1 (wf_i64 w1).2 (wf_i64 w2).1 (wf_i64 w2).2) w fun k => by
      simp only [vals, val_nameV]
      rfl
  · exact calls_namesT (l := [a1, a2]) Bodies.xc Bodies.tabOk n15ran n15fits (n15all a1 a2 (wf_i64 w1).1 (wf_i64 w1).2 (wf_i64 w2).1 (wf_i64 w2).2) w fun k => by
      simp only [vals, val_nameV]
      rfl
  · exact calls_namesT (l := [a1, a2]) Bodies.xc Bodies.tabOk n16ran n16fits (n16all a1 a2 (wf_i64 w1).1 (wf_i64 w1).2 (wf_i64 w2).1 (wf_i64 w2).2) w fun k => by
      simp only [vals, val_nameV]
      rfl
  · exact calls_namesT (l := [a1, a2]) Bodies.xc Bodies.tabOk n17ran n17fits (n17all a1 a2 (wf_i64 w1).1 (wf_i64 w1).2 (wf_i64 w2).1 (wf_i64 w2).2) w fun k => by
      simp only [vals, val_nameV]
      rfl
  · exact calls_namesT (l := [a1, a2]) Bodies.xc Bodies.tabOk n18ran n18fits (n18all a1 a2 (wf_i64 w1).1 (wf_i64 w1).2 (wf_i64 w2).1 (wf_i64 w2).2) w fun k => by
      simp only [vals, val_nameV]
      rfl
  · exact calls_namesT (l := [a1, a2]) Bodies.xc Bodies.tabOk n19ran n19fits (n19all a1 a2 (wf_i64 w1).1 (wf_i64 w1).2 (wf_i64 w2).1 (wf_i64 w2).2) w fun k => by
      simp only [vals, val_nameV]
      rfl
  · exact calls_namesT (l := [a1, a2]) Bodies.xc Bodies.tabOk n20ran n20fits (n20all a1 a2 (wf_i64 w1).1 (wf_i64 w1).2 (wf_i64 w2).1 (wf_i64 w2).2) w fun k => by
      simp only [vals, val_nameV]
      rfl
  · exact calls_namesT (l := [a1, a2]) Bodies.xc Bodies.tabOk n21ran n21fits (n21all a1 a2 (wf_i64 w1).1 (wf_i64 w1).2 (wf_i64 w2).1 (wf_i64 w2).2) w fun k => by
      simp only [vals, val_nameV]
      rfl
  · exact calls_namesT (l := [a1, a2]) Bodies.xc Bodies.tabOk n22ran n22fits (n22all a1 a2 (wf_i64 w1).1 (wf_i64 w1).2 (wf_i64 w2).1 (wf_i64 w2).2) w fun k => by
      simp only [vals, val_nameV]
      rfl
  · exact calls_namesT (l := [a1, a2]) Bodies.xc Bodies.tabOk n23ran n23fits (n23all a1 a2 (wf_i64 w1).1 (wf_i64 w1).2 (wf_i64 w2).1 (wf_i64 w2).2) w fun k => by
      simp only [vals, val_nameV]
      rfl
  · exact calls_namesT (l := [a1, a2]) Bodies.xc Bodies.tabOk n24ran n24fits (n24all a1 a2 (wf_i64 w1).1 (wf_i64 w1).2 (wf_i64 w2).1 (wf_i64 w2).2) w fun k => by
      simp only [vals, val_nameV]
      rfl
  · exact calls_namesT (l := [a1, a2]) Bodies.xc Bodies.tabOk n25ran n25fits (n25all a1 a2 (wf_i64 w1).1 (wf_i64 w1).2 (wf_i64 w2).1 (wf_i64 w2).2) w fun k => by
      simp only [vals, val_nameV]
      rfl
  · exact calls_namesT (l := [a1, a2]) Bodies.xc Bodies.tabOk n26ran n26fits (n26all a1 a2 (wf_i64 w1).1 (wf_i64 w1).2 (wf_i64 w2).1 (wf_i64 w2).2) w fun k => by
      simp only [vals, val_nameV]
      rfl
  · exact calls_namesT (l := [a1, a2]) Bodies.xc Bodies.tabOk n27ran n27fits (n27all a1 a2 (wf_i64 w1).1 (wf_i64 w1).2 (wf_i64 w2).1 (wf_i64 w2).2) w fun k => by
      simp only [vals, val_nameV]
      rfl
  · exact calls_namesT (l := [a1, a2]) Bodies.xc Bodies.tabOk n28ran n28fits (n28all a1 a2 (wf_i64 w1).1 (wf_i64 w1).2 (wf_i64 w2).1 (wf_i64 w2).2) w fun k => by
      simp only [vals, val_nameV]
      rfl
  · exact calls_namesT (l := [a1, a2]) Bodies.xc Bodies.tabOk n29ran n29fits (n29all a1 a2 (wf_i64 w1).1 (wf_i64 w1).2 (wf_i64 w2).1 (wf_i64 w2).2) w fun k => by
      simp only [vals, val_nameV]
      rfl
  · exact calls_namesT (l := [a1, a2]) Bodies.xc Bodies.tabOk n30ran n30fits (n30all a1 a2 (wf_i64 w1).1 (wf_i64 w1).2 (wf_i64 w2).1 (wf_i64 w2).2) w fun k => by
      simp only [vals, val_nameV]
      rfl

set_option maxRecDepth 100000 in
theorem lifted (os : Os) (started : os.Started) (H : Type) (enc : TypeId × Value → H) :
    ReturnsInHanded {} Try.checked os 6 .any (Rows.portsGoneSpec.pre6 enc Try.prog Try.f6 Rows.portsGoneRow.domain false) (Rows.portsGoneSpec.post enc Try.prog Try.f6 false true false false) := by
  refine returnsInHanded_of_change (C := Try.checked) own started (by kernel_rfl) Try.func6
    (ChangeSpec.witness6 (enc := enc) (C := Try.checked) false ⟨#[], #[.int .i64 0, .int .i64 0, .int .i64 0], []⟩ 8 (by kernel_rfl) (by kernel_rfl) (by kernel_rfl) (by kernel_rfl)) ?_
  intro W base args ds gs before hval0 hW hcnd _
  have hp : Try.f6.params = #[3, 3, 3] := by kernel_rfl
  have hval : ∀ (j : Nat) t v, Try.f6.params[j]? = some t → args[j]? = some v → Value.okWide Try.prog W .any base t v := hval0
  have hW' := hW
  obtain ⟨p, q, hA0, hV, rfl, hfz, hnd⟩ := hW
  have hA : DataW.TrodAll enc Try.prog W 0 (fun _ => true) true Try.f6.params.toList args.toList ds p := hA0
  rw [hp] at hA hval
  obtain ⟨v0, vs0, d0, ds0, p0, q0, hargs, rfl, rfl, h0, r0⟩ := trodAll_cons hA
  obtain ⟨v1, vs1, d1, ds1, p1, q1, rfl, rfl, rfl, h1, r1⟩ := trodAll_cons r0
  obtain ⟨v2, vs2, d2, ds2, p2, q2, rfl, rfl, rfl, h2, r2⟩ := trodAll_cons r1
  obtain ⟨rfl, rfl, rfl⟩ := trodAll_nil r2
  obtain rfl : args = #[v0, v1, v2] := by cases args; simp_all
  obtain ⟨a0, rfl, rfl, rfl, w0⟩ := open_int Try.underlying3 (hval 0 3 v0 rfl rfl) h0
  obtain ⟨a1, rfl, rfl, rfl, w1⟩ := open_int Try.underlying3 (hval 1 3 v1 rfl rfl) h1
  obtain ⟨a2, rfl, rfl, rfl, w2⟩ := open_int Try.underlying3 (hval 2 3 v2 rfl rfl) h2
  refine (walk a0 a1 a2 w0 w1 w2 W).mono fun e W' ⟨he, hg⟩ => ?_
  subst he
  exact ⟨_, rfl, post_of_below kids (slices_ok sizes) (by rw [hp]; decide +kernel) hW' rfl rfl (by kernel_rfl) Try.underlying4 hg⟩

set_option maxHeartbeats 8000000 in
theorem proved : Rows.PortsGoneSaid :=
  OpenClaim.holds_of_wide 6 Try.f6 rfl rfl rfl rfl rfl rfl rfl ⟨rfl, rfl, rfl, rfl, rfl⟩ rfl rfl rfl rfl rfl (by kernel_rfl) Try.func6
    (by unfold joinedFacts; exact and2 (and2 (and2 (and2 (and2 (and2 (and2 (and2 (and2 (and2 (and2 (and2 (and2 (and2 (and2 (and2 (and2 (and2 (and2 (and2 (and2 (and2 (and2 (and2 (and2 (and2 (and2 (and2 (and2 (and2 (and2 (by as_aux_lemma => kernel_rfl) laid) rowed) (by as_aux_lemma => kernel_rfl)) (by as_aux_lemma => kernel_rfl)) (by as_aux_lemma => kernel_rfl)) stops) (by as_aux_lemma => kernel_rfl)) knobs) (by as_aux_lemma => kernel_rfl)) (by as_aux_lemma => kernel_rfl)) (by as_aux_lemma => kernel_rfl)) (by as_aux_lemma => kernel_rfl)) (by as_aux_lemma => kernel_rfl)) (by as_aux_lemma => kernel_rfl)) (by as_aux_lemma => kernel_rfl)) (by as_aux_lemma => kernel_rfl)) (by as_aux_lemma => kernel_rfl)) (by as_aux_lemma => kernel_rfl)) (by as_aux_lemma => kernel_rfl)) (by as_aux_lemma => kernel_rfl)) (by as_aux_lemma => kernel_rfl)) (by as_aux_lemma => kernel_rfl)) (by as_aux_lemma => kernel_rfl)) heard) enter) (by as_aux_lemma => kernel_rfl)) (by as_aux_lemma => kernel_rfl)) (by as_aux_lemma => kernel_rfl)) (by as_aux_lemma => kernel_rfl)) (by as_aux_lemma => kernel_rfl)) (by as_aux_lemma => kernel_rfl))
    (of_decide_eq_true (by kernel_rfl)) (by unfold Func.isWrapper; first | (rw [if_pos (by decide +kernel)]; kernel_rfl) | (rw [if_neg (by decide +kernel)]; exact ⟨rfl, rfl⟩))
    (fun os started H enc _ => lifted os started H enc)
end Go.Proofs.Ytfkbofbdonmpfaa.portsGone
