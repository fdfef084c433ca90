/- Actions: a mapping let go; what is done. -/
import Derived.Test.YtbkhielalbbopaaGreatDoorYp7
set_option linter.unusedSimpArgs false
set_option linter.unusedVariables false
set_option linter.unusedSectionVars false
set_option linter.unnecessarySimpa false
set_option maxRecDepth 100000
namespace Go.Proofs.YtbkhielalbbopaaGreatDoor.Wb
open Go Go.Am Go.Am.Xm

structure DelA (es : List Ag) (tO : Bs) : Prop where
  so : Says es nOut tO
  sp : Says es nProto tcp
  no : NumT tO
  bo : valD 0 tO ≤ 65535

structure LiveM (m : Mp) (o T : Int) : Prop where
  p : m.p = 6
  o : m.o = o
  k : m.kd = 3
  u : T < m.un

theorem LiveM.fd {m : Mp} {o T : Int} (h : LiveM m o T) : fdE 6 o T m = true := by
  rw [fdE, lvE, decide_eq_true h.p, decide_eq_true h.o, decide_eq_true h.u]; simp
theorem LiveM.dr {m : Mp} {o T : Int} (h : LiveM m o T) : drE 6 o 3 m = true := by
  rw [drE, decide_eq_true h.p, decide_eq_true h.o, decide_eq_true h.k]; rfl

theorem sdrop_ok {n : Nat} (hn : 8 ≤ n) {rt rd : Nat} {c : Option Nat} {low room tn : Int} {m1 : Mp} {f : Ad} {v : V} {es : List Ag} {tO : Bs} (A : DelA es tO) (L : LiveM m1 (valD 0 tO) (timeP tn 9)) {h : H} {K : V → H → Prop} (hr : Rd h rd v es) (ht : PT h rt c low room tn [m1])
    (kN : m1.ad ≠ f → ∀ h', Bd h' → But h h' (some rt) → PT h' rt c low room (timeP tn 9) [m1] → K (.i .i64 714) h')
    (kY : m1.ad = f → ∀ h', Bd h' → But2 h h' rt c → PT h' rt c low room (timeP tn 9) [] → K (.i .i64 0) h') :
    Ok Tryz.prog n 32 [.p rt 0, .p rd 0, .a (encS f)] h K := by
  obtain ⟨n, rfl⟩ := Nat.exists_eq_add_of_le' hn
  obtain ⟨so, sp, no, bo⟩ := A
  refine Ok.bd (K32 (n := n + 7) fun hbd => ?_)
  unfold F32
  obtain ⟨hlr, hlc⟩ := ht.lt hbd
  refine bx_a (cs := encS f) rfl fun q h1 g1 f1 hq hq' => ?_
  have hr1 := hr.keep hbd f1
  have hbd1 := f1.2.2 hbd
  have n1 := f1.1
  rw [show cstW (wL (wR (bdyW Tryz.f32))) 1 2 = .s nOut by kernel_rfl, cf_k]
  refine rport_ok (by omega) so no bo hr1 fun h7 hbd7 f7 => ?_
  have hr7 := hr1.keep hbd1 f7
  have n7 := f7.1
  rw [cf_k]
  refine rproto_ok (by omega) sp hr7 fun h10 hbd10 f10 => ?_
  have hr10 := hr7.keep hbd7 f10
  have n10 := f10.1
  have q10 := f10.get (by omega) (by simp) (f7.get hq' (by simp) g1)
  have x1 : ∀ κ : V → Prop, pw.l1 (.p rd (0 + 1)) h10 κ = κ (.b false) := fun κ => l1_a hr10.1 rfl
  have x7 : ∀ κ : V → Prop, pw.l1 (.p q (0 + 5)) h10 κ = κ (.i .i64 9) := fun κ => l1_a q10 rfl
  simp (disch := omega) only [ws, x1, F32_12, x7]
  have f010 : But h h10 none := (f1.trans f7).trans f10
  have e0 : fndP (fdE 6 (valD 0 tO) (timeP tn 9)) [m1] 0 = 0 := by simp [fndP, L.fd]
  refine in_ok (by omega) (ht.keep hbd f010) (by simp) (fun h2 _ _ _ hneg => ?_) (fun h2 j hbd2 f2 ht2 hj _ _ => ?_)
  · rw [e0] at hneg
    omega
  have hj0 : j = 0 := by simp at hj; exact hj
  subst hj0
  have n2 := f2.1
  simp (disch := omega) only [ws, List.getElem?_cons_succ, List.getElem?_cons_zero, oP_some, List.getElem_cons_zero]
  refine al_a tt55 fun r26 h26 g26 f26 hr26 hr26' => ?_
  refine sn_w (sz := 9) (cs := encM m1) g26 rfl rfl rfl rfl fun h27 g27 f27 => ?_
  have f227 : But h2 h27 none := f26.over f27 (.inr fun z e => by cases e; exact hr26)
  have hbd27 := f227.2.2 hbd2
  have ht27 := ht2.keep hbd2 f227
  have q27 := f227.get (by omega) (by simp) (f2.get (by omega) (fun e => by have := Option.some.inj e; omega) q10)
  have y1 : ∀ κ : V → Prop, pw.l1 (.p r26 (0 + 7)) h27 κ = κ (.i .i64 m1.kd) := fun κ => l1_a g27 rfl
  have y2 : ∀ κ : V → Prop, pw.ln 4 (.p r26 (0 + 2)) h27 κ = κ (.a (encA m1.ad)) := fun κ => by rw [ln_a (sz := 4) g27 (by simp [encM])]; rfl
  have y3 : ∀ κ : V → Prop, pw.ln 4 (.p q (0 + 6)) h27 κ = κ (.a (encA f)) := fun κ => by rw [ln_a (sz := 4) q27 (by simp [encS])]; rfl
  simp (disch := omega) only [ws, y1, y2, y3, Bool.not_true, ne_i, decide_eq_true L.k]
  rw [nead]
  have fr : But h h27 (some rt) := ((f010.none _).trans f2).trans (f227.none _)
  by_cases had : m1.ad = f
  · rw [decide_eq_true had]
    simp (disch := omega) only [ws, Bool.not_true, F32_29]
    refine drop_ok (by omega) ht27 (by simp) fun h36 b hbd36 f36 ht36 => ?_
    have ef : [m1].filter (fun e => !drE 6 (valD 0 tO) 3 e) = [] := by simp [L.dr]
    rw [ef] at ht36
    exact fun hb => kY had h36 hb ((fr.two (.inr (.inl rfl))).trans f36) ht36
  · rw [decide_eq_false had]
    simp (disch := omega) only [ws, Bool.not_false]
    exact fun hb => kN had h27 hb fr ht27

def nAdd : Bs := "AddPortMapping".toUTF8.data.toList
def nDel : Bs := "DeletePortMapping".toUTF8.data.toList

theorem vs_cells {h : H} {v : V} {es : List Ag} (hv : VecE h v 49 2 encG es) : cellsOfV v = [v] ∧ blW (mkX Tryz.prog) 89 [(0, v)] = some (.a [v, .b false]) := by
  obtain ⟨_, hv⟩ := hv
  rcases hv with ⟨e, _⟩ | ⟨r, cap, e, l, e2, _⟩
  · subst e
    refine ⟨rfl, ?_⟩
    unfold blW
    rw [ti_some _ tt89]
    rfl
  · subst e2
    refine ⟨rfl, ?_⟩
    unfold blW
    rw [ti_some _ tt89]
    rfl
/-- What every action begins with. -/
theorem do_add {n : Nat} (hn : 1 ≤ n) {rt : Nat} {v : V} {es : List Ag} {f : Ad} {h : H} {K : V → H → Prop} (hv : VecE h v 49 2 encG es)
    (k : ∀ h1 rd, Bd h1 → But h h1 none → Rd h1 rd v es → h.next ≤ rd → Ok Tryz.prog (n - 1) 31 [.p rt 0, .p rd 0, .a (encS f)] h1 (fun w h2 => Bd h2 → K (.t [.ns, w]) h2)) : Ok Tryz.prog n 15 [.p rt 0, .a [.s nAdd, v], .a (encS f)] h K := by
  obtain ⟨n, rfl⟩ := Nat.exists_eq_add_of_le' hn
  refine Ok.bd (K15 (n := n) fun hbd => ?_)
  unfold F15
  refine bx_a (cs := [.s nAdd, v]) rfl fun q4 h4 g4 f4 hq4 hq4' => ?_
  refine bx_a (cs := encS f) rfl fun q5 h5 g5 f5 hq5 hq5' => ?_
  have g45 := f5.get hq4' (by simp) g4
  rw [fa_p, l1_a g45 (x := v) rfl]
  refine bl_a (vs_cells hv).2 ?_
  refine bx_a (cs := [v, .b false]) rfl fun rd h11 g11 f11 hrd hrd' => ?_
  have g411 := f11.get (by have := f5.1; omega) (by simp) g45
  have g511 := f11.get hq5' (by simp) g5
  rw [fa_p, l1_a g411 (x := .s nAdd) rfl]
  rw [show cstW (wL (wL (wR (wL (wR (wR (bdyW Tryz.f15))))))) 0 1 = .s "GetExternalIPAddress".toUTF8.data.toList by kernel_rfl, eq_s, show (nAdd == "GetExternalIPAddress".toUTF8.data.toList) = false by kernel_rfl, cd_f]
  rw [show cstW (wL (wR (wR (wL (wR (wL (wR (wR (bdyW Tryz.f15))))))))) 0 1 = .s "GetStatusInfo".toUTF8.data.toList by kernel_rfl, eq_s, show (nAdd == "GetStatusInfo".toUTF8.data.toList) = false by kernel_rfl, cd_f]
  rw [show cstW (wL (wR (wR (wR (wR (wL (wR (wL (wR (wR (bdyW Tryz.f15))))))))))) 0 1 = .s nAdd by kernel_rfl, eq_s, show (nAdd == nAdd) = true by kernel_rfl, cd_t]
  rw [ln_w (sz := 11) g511 rfl, cf_k]
  have f011 : But h h11 none := (f4.trans f5).trans f11
  exact k h11 rd (f011.2.2 hbd) f011 ⟨g11, hv.keep (hv.lt hbd) f011 (.inr rfl)⟩ (by have := f4.1; have := f5.1; omega)

theorem do_del {n : Nat} (hn : 1 ≤ n) {rt : Nat} {v : V} {es : List Ag} {f : Ad} {h : H} {K : V → H → Prop} (hv : VecE h v 49 2 encG es)
    (k : ∀ h1 rd, Bd h1 → But h h1 none → Rd h1 rd v es → h.next ≤ rd → Ok Tryz.prog (n - 1) 32 [.p rt 0, .p rd 0, .a (encS f)] h1 (fun w h2 => Bd h2 → K (.t [.ns, w]) h2)) : Ok Tryz.prog n 15 [.p rt 0, .a [.s nDel, v], .a (encS f)] h K := by
  obtain ⟨n, rfl⟩ := Nat.exists_eq_add_of_le' hn
  refine Ok.bd (K15 (n := n) fun hbd => ?_)
  unfold F15
  refine bx_a (cs := [.s nDel, v]) rfl fun q4 h4 g4 f4 hq4 hq4' => ?_
  refine bx_a (cs := encS f) rfl fun q5 h5 g5 f5 hq5 hq5' => ?_
  have g45 := f5.get hq4' (by simp) g4
  rw [fa_p, l1_a g45 (x := v) rfl]
  refine bl_a (vs_cells hv).2 ?_
  refine bx_a (cs := [v, .b false]) rfl fun rd h11 g11 f11 hrd hrd' => ?_
  have g411 := f11.get (by have := f5.1; omega) (by simp) g45
  have g511 := f11.get hq5' (by simp) g5
  rw [fa_p, l1_a g411 (x := .s nDel) rfl]
  rw [show cstW (wL (wL (wR (wL (wR (wR (bdyW Tryz.f15))))))) 0 1 = .s "GetExternalIPAddress".toUTF8.data.toList by kernel_rfl, eq_s, show (nDel == "GetExternalIPAddress".toUTF8.data.toList) = false by kernel_rfl, cd_f]
  rw [show cstW (wL (wR (wR (wL (wR (wL (wR (wR (bdyW Tryz.f15))))))))) 0 1 = .s "GetStatusInfo".toUTF8.data.toList by kernel_rfl, eq_s, show (nDel == "GetStatusInfo".toUTF8.data.toList) = false by kernel_rfl, cd_f]
  rw [show cstW (wL (wR (wR (wR (wR (wL (wR (wL (wR (wR (bdyW Tryz.f15))))))))))) 0 1 = .s nAdd by kernel_rfl, eq_s, show (nDel == nAdd) = false by kernel_rfl, cd_f]
  rw [show cstW (wL (wR (wR (wR (wR (wR (wR (wL (wR (wL (wR (wR (bdyW Tryz.f15))))))))))))) 0 1 = .s nDel by kernel_rfl, eq_s, show (nDel == nDel) = true by kernel_rfl, cd_t]
  rw [ln_w (sz := 11) g511 rfl, cf_k]
  have f011 : But h h11 none := (f4.trans f5).trans f11
  exact k h11 rd (f011.2.2 hbd) f011 ⟨g11, hv.keep (hv.lt hbd) f011 (.inr rfl)⟩ (by have := f4.1; have := f5.1; omega)

end Go.Proofs.YtbkhielalbbopaaGreatDoor.Wb
