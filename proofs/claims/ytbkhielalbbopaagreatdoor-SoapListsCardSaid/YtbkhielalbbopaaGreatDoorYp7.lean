/- Actions: a mapping let be, let go. -/
import Derived.Test.YtbkhielalbbopaaGreatDoorYp6
import Derived.Test.YtbkhielalbbopaaGreatDoorUm0
set_option linter.unusedSimpArgs false
set_option linter.unusedVariables false
set_option linter.unusedSectionVars false
set_option linter.unnecessarySimpa false
set_option maxRecDepth 100000
namespace Go.Proofs.YtbkhielalbbopaaGreatDoor.Wb
open Go Go.Am Go.Am.Xm

/-- What stands is another's. -/
theorem put1_ok {n : Nat} (hn : 6 ≤ n) {r : Nat} {c : Option Nat} {low room tn t : Int} {m m1 : Mp} (hm : May m (timeP tn t)) (hf : fdE m.p m.o (timeP tn t) m1 = true) (hkd : m1.kd = m.kd) (had : m1.ad ≠ m.ad) {h : H} {K : V → H → Prop} (ht : PT h r c low room tn [m1])
    (k : ∀ h', Bd h' → But h h' (some r) → PT h' r c low room (timeP tn t) [m1] → K (.i .i64 8) h') : Ok Tryz.prog n 64 [.p r 0, .a (encM m), .i .i64 t] h K := by
  obtain ⟨n, rfl⟩ := Nat.exists_eq_add_of_le' hn
  refine Ok.bd (K64 (n := n + 5) fun hbd => ?_)
  unfold F64
  obtain ⟨hr, _⟩ := ht.lt hbd
  refine bx_a (cs := encM m) rfl fun q h1 g1 f1 hq hq' => ?_
  have n1 := f1.1
  rw [cf_k]
  refine time_ok (by omega) (ht.keep hbd f1) fun h2 hbd2 f2 ht2 => ?_
  have hqr : some q ≠ some r := fun e => by have := Option.some.inj e; omega
  have g2 := f2.get hq' hqr g1
  have n2 := f2.1
  rw [ln_w (sz := 9) g2 rfl, cf_k]
  refine may_ok (by omega) hm fun h3 hbd3 f3 => ?_
  have n3 := f3.1
  rw [nt_b, Bool.not_true, cd_f]
  unfold F64_10
  have g3 := f3.get (by omega) (by simp) g2
  have ht3 := ht2.keep hbd2 f3
  rw [fa_p, l1_a g3 (x := .i .i64 m.p) rfl, fa_p, l1_a g3 (x := .i .i64 m.o) rfl, cf_k]
  refine find_ok (by omega) ht3 (by simp) fun h4 hbd4 f4 => ?_
  have n4 := f4.1
  have e0 : fndP (fdE m.p m.o (timeP tn t)) [m1] 0 = 0 := by simp [fndP, hf]
  have ht4 := ht3.keep hbd3 f4
  have g4 := f4.get (by omega) (by simp) g3
  obtain ⟨lv, gt, gv, _, _⟩ := id ht4
  have r3 : ∀ κ : V → Prop, pw.l1 (.p r (0 + 3)) h4 κ = κ lv := fun κ => l1_a gt rfl
  rw [e0, ge_i, decide_eq_true (show (0 : Int) ≤ 0 by omega)]
  simp (disch := omega) only [ws, r3]
  refine vece_at (i := 0) encM_len gv rfl (by simp) fun b ha => ?_
  have a7 : ∀ κ : V → Prop, pw.l1 (.p b (0 * 9 + 7)) h4 κ = κ (.i .i64 m1.kd) := fun κ => ha.get (f := 7) rfl
  have m7 : ∀ κ : V → Prop, pw.l1 (.p q (0 + 7)) h4 κ = κ (.i .i64 m.kd) := fun κ => l1_a g4 rfl
  simp (disch := omega) only [ws, a7, m7, r3, ne_i, decide_eq_true hkd, Bool.not_true]
  refine vece_at (i := 0) encM_len gv rfl (by simp) fun b2 ha2 => ?_
  have a2 : ∀ κ : V → Prop, pw.ln 4 (.p b2 (0 * 9 + 2)) h4 κ = κ (.a (encA m1.ad)) := fun κ => by rw [ha2.getn (f := 2) (n := 4) (by omega)]; rfl
  have m2 : ∀ κ : V → Prop, pw.ln 4 (.p q (0 + 2)) h4 κ = κ (.a (encA m.ad)) := fun κ => by rw [ln_a (sz := 4) g4 (by simp [encM])]; rfl
  simp (disch := omega) only [ws, a2, m2]
  rw [nead, decide_eq_false had]
  simp (disch := omega) only [ws, Bool.not_false]
  exact fun hb => k h4 hb ((((f1.none _).trans f2).trans (f3.none _)).trans (f4.none _)) ht4

def encS (f : Ad) : List V := [.i .u8 203, .i .u8 0, .i .u8 113, .i .u8 7, .i .i64 0, .i .i64 9, .i .u8 f.a, .i .u8 f.b, .i .u8 f.c, .i .u8 f.d, .b true]

structure AddA (es : List Ag) (tO tI tS : Bs) (a b c d : Nat) : Prop where
  so : Says es nOut tO
  sp : Says es nProto tcp
  si : Says es nIn tI
  sc : Says es nClient (adrT a b c d)
  ss : Says es nSecs tS
  no : NumT tO
  ni : NumT tI
  ns : NumT tS
  ha : a < 256
  hb : b < 256
  hc : c < 256
  hd : d < 256
  bo : 1 ≤ valD 0 tO ∧ valD 0 tO ≤ 65535
  bi : 1 ≤ valD 0 tI ∧ valD 0 tI ≤ 65535
  bs : 1 ≤ valD 0 tS ∧ valD 0 tS ≤ 604800

theorem sadd_ok {n : Nat} (hn : 8 ≤ n) {rt rd : Nat} {v : V} {es : List Ag} {tO tI tS : Bs} {a b c d : Nat} (A : AddA es tO tI tS a b c d) {h : H} {K : V → H → Prop} (hr : Rd h rd v es)
    (put : ∀ h', Bd h' → But h h' none → Ok Tryz.prog (n - 1) 64 [.p rt 0, .a (encM ⟨6, valD 0 tO, ⟨a, b, c, d⟩, valD 0 tI, 3, 9 + valD 0 tS⟩), .i .i64 9] h' (fun v h2 => v = .i .i64 0 ∧ (Bd h2 → K (.i .i64 0) h2) ∨ v = .i .i64 8 ∧ (Bd h2 → K (.i .i64 718) h2))) :
    Ok Tryz.prog n 31 [.p rt 0, .p rd 0, .a (encS ⟨a, b, c, d⟩)] h K := by
  obtain ⟨n, rfl⟩ := Nat.exists_eq_add_of_le' hn
  obtain ⟨so, sp, si, sc, ss, no, ni, ns, ha, hb, hc, hd, bo, bi, bs⟩ := A
  refine Ok.bd (K31 (n := n + 7) fun hbd => ?_)
  unfold F31
  refine bx_a (cs := encS ⟨a, b, c, d⟩) rfl fun q h1 g1 f1 hq hq' => ?_
  have hr1 := hr.keep hbd f1
  have hbd1 := f1.2.2 hbd
  have n1 := f1.1
  rw [show cstW (wL (wR (bdyW Tryz.f31))) 1 2 = .s nOut by kernel_rfl, show cstW (wL (wR (bdyW Tryz.f31))) 5 2 = .s nIn by kernel_rfl, show cstW (wL (wR (wR (bdyW Tryz.f31)))) 1 2 = .s nSecs by kernel_rfl, cf_k]
  refine rport_ok (by omega) so no bo.2 hr1 fun h7 hbd7 f7 => ?_
  have hr7 := hr1.keep hbd1 f7
  have n7 := f7.1
  rw [cf_k]
  refine rproto_ok (by omega) sp hr7 fun h9 hbd9 f9 => ?_
  have hr9 := hr7.keep hbd7 f9
  have n9 := f9.1
  rw [cf_k]
  refine rport_ok (by omega) si ni bi.2 hr9 fun h11 hbd11 f11 => ?_
  have hr11 := hr9.keep hbd9 f11
  have n11 := f11.1
  rw [cf_k]
  refine rclient_ok (by omega) ha hb hc hd sc hr11 fun h13 hbd13 f13 => ?_
  have hr13 := hr11.keep hbd11 f13
  have n13 := f13.1
  refine bl_a (v := .a (encM ⟨6, valD 0 tO, ⟨a, b, c, d⟩, valD 0 tI, 3, 0⟩)) ?_ ?_
  · simp only [blW, ti, tt55, placesSt, encA, cellsOfV, List.getElem?_cons_zero, List.getElem?_cons_succ, fillA]; rfl
  refine al_a tt55 fun r15 h15 g15 f15 hr15 hr15' => ?_
  refine sn_w (sz := 9) (cs := encM ⟨6, valD 0 tO, ⟨a, b, c, d⟩, valD 0 tI, 3, 0⟩) g15 rfl rfl rfl rfl fun h16 g16 f16 => ?_
  have f1516 : But h13 h16 none := f15.over f16 (.inr fun z e => by cases e; exact hr15)
  have hr16 := hr13.keep hbd13 f1516
  have hbd16 := f1516.2.2 hbd13
  have n15 := f15.1
  have n16 := f16.1
  rw [cf_k]
  refine number_ok (by omega) ss ns (by omega) hr16 fun h18 hbd18 f18 => ?_
  have hr18 := hr16.keep hbd16 f18
  have n18 := f18.1
  have g18 := f18.get (by omega) (by simp) g16
  have q18 := f18.get (by omega) (by simp) (f1516.get (by omega) (by simp) (f13.get (by omega) (by simp) (f11.get (by omega) (by simp) (f9.get (by omega) (by simp) (f7.get hq' (by simp) g1)))))
  have x1 : ∀ κ : V → Prop, pw.l1 (.p rd (0 + 1)) h18 κ = κ (.b false) := fun κ => l1_a hr18.1 rfl
  have x2 : ∀ κ : V → Prop, pw.l1 (.p r15 (0 + 1)) h18 κ = κ (.i .i64 (valD 0 tO)) := fun κ => l1_a g18 rfl
  have x3 : ∀ κ : V → Prop, pw.l1 (.p r15 (0 + 6)) h18 κ = κ (.i .i64 (valD 0 tI)) := fun κ => l1_a g18 rfl
  have x4 : ∀ κ : V → Prop, pw.ln 4 (.p r15 (0 + 2)) h18 κ = κ (.a (encA ⟨a, b, c, d⟩)) := fun κ => by rw [ln_a (sz := 4) g18 (by simp [encM])]; rfl
  have x5 : ∀ κ : V → Prop, pw.ln 4 (.p q (0 + 6)) h18 κ = κ (.a (encA ⟨a, b, c, d⟩)) := fun κ => by rw [ln_a (sz := 4) q18 (by simp [encS])]; rfl
  have x6 : ∀ κ : V → Prop, pw.l1 (.p q (0 + 10)) h18 κ = κ (.b true) := fun κ => l1_a q18 rfl
  have x7 : ∀ κ : V → Prop, pw.l1 (.p q (0 + 5)) h18 κ = κ (.i .i64 9) := fun κ => l1_a q18 rfl
  simp (disch := omega) only [ws, x1, x2, x3, x4, x5, x6, eq_i, dec_f]
  rw [nead, decide_eq_true rfl]
  simp (disch := omega) only [ws, Bool.not_true, x6, F31_20, eq_i, gt_i, dec_f, F31_25, x7]
  have o8 : (8 : Nat) < (encM ⟨6, valD 0 tO, ⟨a, b, c, d⟩, valD 0 tI, 3, 0⟩).length := by simp [encM]
  refine s1_a (o := 0 + 8) g18 (by simp [encM]) rfl fun h35 g35 f35 => ?_
  have g35' : h35.mem.get r15 = some (.c (encM ⟨6, valD 0 tO, ⟨a, b, c, d⟩, valD 0 tI, 3, 9 + valD 0 tS⟩) 55 true) := g35
  have q35 := f35.get (by omega) (fun e => by have := Option.some.inj e; omega) q18
  rw [ln_w (sz := 9) g35' rfl]
  have fz : But h h35 none := ((((((((f1.trans f7).trans f9).trans f11).trans f13).trans f1516).trans f18).over f35 (.inr fun z e => by cases e; omega)))
  have x8 : ∀ κ : V → Prop, pw.l1 (.p q (0 + 5)) h35 κ = κ (.i .i64 9) := fun κ => l1_a q35 rfl
  simp (disch := omega) only [ws, x8]
  refine (put h35 (fz.2.2 hbd) fz).mono fun v' h42 _ hbd42 _ hk => ?_
  rcases hk with ⟨e, hk⟩ | ⟨e, hk⟩ <;> subst e
  · simp (disch := omega) only [ws, eq_i]
    try simp (disch := omega) only [ws, dec_t]
    exact fun hb => hk hb
  · simp (disch := omega) only [ws, eq_i]
    try simp (disch := omega) only [ws, dec_t, dec_f]
    exact fun hb => hk hb

end Go.Proofs.YtbkhielalbbopaaGreatDoor.Wb
