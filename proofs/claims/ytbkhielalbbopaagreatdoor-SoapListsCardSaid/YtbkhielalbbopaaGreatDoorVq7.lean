/- What is told of a mapping. -/
import Derived.Test.YtbkhielalbbopaaGreatDoorVq6
set_option linter.unusedSimpArgs false
set_option linter.unusedVariables false
set_option linter.unusedSectionVars false
set_option linter.unnecessarySimpa false
set_option maxRecDepth 100000
namespace Go.Proofs.YtbkhielalbbopaaGreatDoor.Wb
open Go Go.Am Go.Am.Xm

def nEn : Bs := "NewEnabled".toUTF8.data.toList
def entA : List Ag := [(nIn, digs 80), (nClient, adrT 10 0 0 5), (nEn, [49]), (nSecs, digs 60)]
theorem entry_ok {n : Nat} (hn : 13 ≤ n) {p : Nat} {h : H} {K : V → H → Prop} (P : P10 h) (k : ∀ h' v, Bd h' → But h h' none → VecE h' v 49 2 encG entA → (∀ z, vblk v = some z → h.next ≤ z) → K v h') : Ok Tryz.prog n 67 [.a (encM (uM p)), .i .i64 9] h K := by
  obtain ⟨n, rfl⟩ := Nat.exists_eq_add_of_le' (show 1 ≤ n by omega)
  refine Ok.bd (K67 (n := n) fun hbd => ?_)
  unfold F67
  refine bx_a (cs := encM (uM p)) rfl fun q h1 g1 f1 hq hq' => ?_
  have r8 : ∀ κ : V → Prop, pw.l1 (.p q (0 + 8)) h1 κ = κ (.i .i64 69) := fun κ => l1_a g1 rfl
  have r7 : ∀ κ : V → Prop, pw.l1 (.p q (0 + 7)) h1 κ = κ (.i .i64 3) := fun κ => l1_a g1 rfl
  have r6 : ∀ κ : V → Prop, pw.l1 (.p q (0 + 6)) h1 κ = κ (.i .i64 80) := fun κ => l1_a g1 rfl
  have r2 : ∀ κ : V → Prop, pw.ln 4 (.p q (0 + 2)) h1 κ = κ (.a (encA ⟨10, 0, 0, 5⟩)) := fun κ => by rw [ln_a (sz := 4) g1 (by simp [encM])]; rfl
  have P1 := P.keep f1 (by simp)
  rw [fa_p, r8, sb_64 (by decide), fa_p, r7, eq_i, decide_eq_false (show ¬ (3 : Int) = 4 by decide), cd_f]
  unfold F67_10
  rw [show cstW (wL (wR (wR (wR (bdyW Tryz.f67))))) 3 0 = .s nIn by kernel_rfl, show cstW (wL (wR (wR (wR (bdyW Tryz.f67))))) 7 0 = .s nClient by kernel_rfl, show cstW (wL (wR (wR (wR (bdyW Tryz.f67))))) 8 0 = .s nEn by kernel_rfl, show cstW (wL (wR (wR (wR (bdyW Tryz.f67))))) 8 1 = .s [49] by kernel_rfl, show cstW (wL (wR (wR (wR (bdyW Tryz.f67))))) 11 0 = .s nSecs by kernel_rfl]
  rw [fa_p, r6, cf_k]
  have b49 : ∀ (a b : Bs), blW (mkX Tryz.prog) 49 [(0, .s a), (1, .s b)] = some (.a [.s a, .s b]) := fun a b => by
    unfold blW
    rw [ti_some _ tt49]
    rfl
  refine Ok.bd (numw_ok (c := 80) (by omega) (by omega) P1 fun h2 f2 => fun hbd2 => ⟨fun z hz => f2.2.1 z hz (by simp), ?_⟩)
  refine bl_a (b49 _ _) ?_
  rw [fa_p, r2, cf_k]
  have P2 := P1.keep f2 (by simp)
  refine ptext_ok (a := 10) (b := 0) (c := 0) (d := 5) (by omega) (by omega) (by omega) (by omega) (by omega) P2 fun h3 hbd3 f3 => ?_
  have P3 := P2.keep f3 (by simp)
  refine bl_a (b49 _ _) (bl_a (b49 _ _) ?_)
  rw [cf_k]
  refine Ok.bd (numw_ok (c := 60) (by omega) (by omega) P3 fun h4 f4 => fun hbd4 => ?_)
  refine bl_a (b49 _ _) ?_
  refine bs_a (cs := encs encG entA) tt23 rfl tt49 (by decide) rfl rfl fun q5 h5 g5 f5 hq5 hq5' => ?_
  have hv := vec_lit g5
  have n1 := f1.1
  have n2 := f2.1
  have n3 := f3.1
  have n4 := f4.1
  exact fun hb => k h5 _ hb ((((f1.trans f2).trans f3).trans f4).trans f5) hv fun z e => by cases e; omega

/-! ### Do: so many-th mapping -/
def nGen : Bs := "GetGenericPortMappingEntry".toUTF8.data.toList
def nIdx : Bs := "NewPortMappingIndex".toUTF8.data.toList
theorem do_gen {n : Nat} (hn : 1 ≤ n) {rt : Nat} {v : V} {es : List Ag} {f : Ad} {h : H} {K : V → H → Prop} (hv : VecE h v 49 2 encG es)
    (k : ∀ h1 rd, Bd h1 → But h h1 none → Rd h1 rd v es → h.next ≤ rd → Ok Tryz.prog (n - 1) 34 [.p rt 0, .p rd 0, .a (encS f)] h1 (fun w h2 => pw.ex 0 w fun a => pw.ex 1 w fun b => Bd h2 → K (.t [a, b]) h2)) : Ok Tryz.prog n 15 [.p rt 0, .a [.s nGen, v], .a (encS f)] h K := by
  obtain ⟨n, rfl⟩ := Nat.exists_eq_add_of_le' hn
  refine Ok.bd (K15 (n := n) fun hbd => ?_)
  unfold F15
  refine bx_a (cs := [.s nGen, v]) rfl fun q4 h4 g4 f4 hq4 hq4' => ?_
  refine bx_a (cs := encS f) rfl fun q5 h5 g5 f5 hq5 hq5' => ?_
  have g45 := f5.get hq4' (by simp) g4
  rw [fa_p, l1_a g45 (x := v) rfl]
  refine bl_a (vs_cells hv).2 ?_
  refine bx_a (cs := [v, .b false]) rfl fun rd h11 g11 f11 hrd hrd' => ?_
  have g411 := f11.get (by have := f5.1; omega) (by simp) g45
  have g511 := f11.get hq5' (by simp) g5
  rw [fa_p, l1_a g411 (x := .s nGen) rfl]
  rw [show cstW (wL (wL (wR (wL (wR (wR (bdyW Tryz.f15))))))) 0 1 = .s "GetExternalIPAddress".toUTF8.data.toList by kernel_rfl, eq_s, show (nGen == "GetExternalIPAddress".toUTF8.data.toList) = false by kernel_rfl, cd_f]
  rw [show cstW (wL (wR (wR (wL (wR (wL (wR (wR (bdyW Tryz.f15))))))))) 0 1 = .s "GetStatusInfo".toUTF8.data.toList by kernel_rfl, eq_s, show (nGen == "GetStatusInfo".toUTF8.data.toList) = false by kernel_rfl, cd_f]
  rw [show cstW (wL (wR (wR (wR (wR (wL (wR (wL (wR (wR (bdyW Tryz.f15))))))))))) 0 1 = .s nAdd by kernel_rfl, eq_s, show (nGen == nAdd) = false by kernel_rfl, cd_f]
  rw [show cstW (wL (wR (wR (wR (wR (wR (wR (wL (wR (wL (wR (wR (bdyW Tryz.f15))))))))))))) 0 1 = .s nDel by kernel_rfl, eq_s, show (nGen == nDel) = false by kernel_rfl, cd_f]
  rw [show cstW (wL (wR (wR (wR (wR (wR (wR (wR (wR (wL (wR (wL (wR (wR (bdyW Tryz.f15))))))))))))))) 0 1 = .s "GetSpecificPortMappingEntry".toUTF8.data.toList by kernel_rfl, eq_s, show (nGen == "GetSpecificPortMappingEntry".toUTF8.data.toList) = false by kernel_rfl, cd_f]
  rw [show cstW (wL (wR (wR (wR (wR (wR (wR (wR (wR (wR (wR (wL (wR (wL (wR (wR (bdyW Tryz.f15))))))))))))))))) 0 1 = .s nGen by kernel_rfl, eq_s, show (nGen == nGen) = true by kernel_rfl, cd_t]
  rw [ln_w (sz := 11) g511 rfl, cf_k]
  have f011 : But h h11 none := (f4.trans f5).trans f11
  exact k h11 rd (f011.2.2 hbd) f011 ⟨g11, hv.keep (hv.lt hbd) f011 (.inr rfl)⟩ (by have := f4.1; have := f5.1; omega)
end Go.Proofs.YtbkhielalbbopaaGreatDoor.Wb
