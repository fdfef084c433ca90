/- Actions over the other protocol; a flow's mapping. -/
import Derived.Test.YtbkhielalbbopaaGreatDoorVq2
set_option linter.unusedSimpArgs false
set_option linter.unusedVariables false
set_option linter.unusedSectionVars false
set_option linter.unnecessarySimpa false
set_option maxRecDepth 100000
namespace Go.Proofs.YtbkhielalbbopaaGreatDoor.Wb
open Go Go.Am Go.Am.Xm

def udp : Bs := [85, 68, 80]
theorem rprotoU_ok {n : Nat} (hn : 5 ≤ n) {es : List Ag} {r : Nat} {v : V} (hs : Says es nProto udp) {h : H} {K : V → H → Prop} (hr : Rd h r v es) (k : ∀ h', Bd h' → But h h' none → K (.i .i64 17) h') : Ok Tryz.prog n 61 [.p r 0] h K := by
  obtain ⟨n, rfl⟩ := Nat.exists_eq_add_of_le' hn
  refine Ok.bd (K61 (n := n + 4) fun hbd => ?_)
  unfold F61
  rw [show cstW (wL (wL (wR (bdyW Tryz.f61)))) 1 2 = .s nProto by kernel_rfl, cf_k]
  refine text_ok (by omega) hs hr fun h1 hbd1 f1 => ?_
  rw [show cstW (wL (wL (wR (wL (wR (bdyW Tryz.f61)))))) 0 1 = .s tcp by kernel_rfl, eq_s, show (udp == tcp) = false by decide, cd_f]
  rw [show cstW (wL (wR (wR (wL (wR (wL (wR (bdyW Tryz.f61)))))))) 0 1 = .s udp by kernel_rfl, eq_s]
  simp only [BEq.rfl, cd_t]
  exact fun _ => k h1 hbd1 f1

structure AddU (es : List Ag) (tO tI tS : Bs) (a b c d : Nat) : Prop where
  so : Says es nOut tO
  sp : Says es nProto udp
  si : Says es nIn tI
  sc : Says es nClient (adrT a b c d)
  ss : Says es nSecs tS
  no : NumT tO
  ni : NumT tI
  ns : NumT tS
  ha : a < 256
  hb : b < 256
  hc : c < 256
  hd : d < 256
  bo : 1 ≤ valD 0 tO ∧ valD 0 tO ≤ 65535
  bi : 1 ≤ valD 0 tI ∧ valD 0 tI ≤ 65535
  bs : 1 ≤ valD 0 tS ∧ valD 0 tS ≤ 604800

set_option maxHeartbeats 4000000 in
theorem saddU_ok {n : Nat} (hn : 8 ≤ n) {rt rd : Nat} {v : V} {es : List Ag} {tO tI tS : Bs} {a b c d : Nat} (A : AddU es tO tI tS a b c d) {h : H} {K : V → H → Prop} (hr : Rd h rd v es)
    (put : ∀ h', Bd h' → But h h' none → Ok Tryz.prog (n - 1) 64 [.p rt 0, .a (encM ⟨17, valD 0 tO, ⟨a, b, c, d⟩, valD 0 tI, 3, 9 + valD 0 tS⟩), .i .i64 9] h' (fun v h2 => v = .i .i64 0 ∧ (Bd h2 → K (.i .i64 0) h2) ∨ v = .i .i64 8 ∧ (Bd h2 → K (.i .i64 718) h2))) :
    Ok Tryz.prog n 31 [.p rt 0, .p rd 0, .a (encS ⟨a, b, c, d⟩)] h K := by
  obtain ⟨n, rfl⟩ := Nat.exists_eq_add_of_le' hn
  obtain ⟨so, sp, si, sc, ss, no, ni, ns, ha, hb, hc, hd, bo, bi, bs⟩ := A
  refine Ok.bd (K31 (n := n + 7) fun hbd => ?_)
  unfold F31
  refine bx_a (cs := encS ⟨a, b, c, d⟩) rfl fun q h1 g1 f1 hq hq' => ?_
  have hr1 := hr.keep hbd f1
  have hbd1 := f1.2.2 hbd
  have n1 := f1.1
  rw [show cstW (wL (wR (bdyW Tryz.f31))) 1 2 = .s nOut by kernel_rfl, show cstW (wL (wR (bdyW Tryz.f31))) 5 2 = .s nIn by kernel_rfl, show cstW (wL (wR (wR (bdyW Tryz.f31)))) 1 2 = .s nSecs by kernel_rfl, cf_k]
  refine rport_ok (by omega) so no bo.2 hr1 fun h7 hbd7 f7 => ?_
  have hr7 := hr1.keep hbd1 f7
  have n7 := f7.1
  rw [cf_k]
  refine rprotoU_ok (by omega) sp hr7 fun h9 hbd9 f9 => ?_
  have hr9 := hr7.keep hbd7 f9
  have n9 := f9.1
  rw [cf_k]
  refine rport_ok (by omega) si ni bi.2 hr9 fun h11 hbd11 f11 => ?_
  have hr11 := hr9.keep hbd9 f11
  have n11 := f11.1
  rw [cf_k]
  refine rclient_ok (by omega) ha hb hc hd sc hr11 fun h13 hbd13 f13 => ?_
  have hr13 := hr11.keep hbd11 f13
  have n13 := f13.1
  refine bl_a (v := .a (encM ⟨17, valD 0 tO, ⟨a, b, c, d⟩, valD 0 tI, 3, 0⟩)) ?_ ?_
  · simp only [blW, ti, tt55, placesSt, encA, cellsOfV, List.getElem?_cons_zero, List.getElem?_cons_succ, fillA]; rfl
  refine al_a tt55 fun r15 h15 g15 f15 hr15 hr15' => ?_
  refine sn_w (sz := 9) (cs := encM ⟨17, valD 0 tO, ⟨a, b, c, d⟩, valD 0 tI, 3, 0⟩) g15 rfl rfl rfl rfl fun h16 g16 f16 => ?_
  have f1516 : But h13 h16 none := f15.over f16 (.inr fun z e => by cases e; exact hr15)
  have hr16 := hr13.keep hbd13 f1516
  have hbd16 := f1516.2.2 hbd13
  have n15 := f15.1
  have n16 := f16.1
  rw [cf_k]
  refine number_ok (by omega) ss ns (by omega) hr16 fun h18 hbd18 f18 => ?_
  have hr18 := hr16.keep hbd16 f18
  have n18 := f18.1
  have g18 := f18.get (by omega) (by simp) g16
  have q18 := f18.get (by omega) (by simp) (f1516.get (by omega) (by simp) (f13.get (by omega) (by simp) (f11.get (by omega) (by simp) (f9.get (by omega) (by simp) (f7.get hq' (by simp) g1)))))
  have x1 : ∀ κ : V → Prop, pw.l1 (.p rd (0 + 1)) h18 κ = κ (.b false) := fun κ => l1_a hr18.1 rfl
  have x2 : ∀ κ : V → Prop, pw.l1 (.p r15 (0 + 1)) h18 κ = κ (.i .i64 (valD 0 tO)) := fun κ => l1_a g18 rfl
  have x3 : ∀ κ : V → Prop, pw.l1 (.p r15 (0 + 6)) h18 κ = κ (.i .i64 (valD 0 tI)) := fun κ => l1_a g18 rfl
  have x4 : ∀ κ : V → Prop, pw.ln 4 (.p r15 (0 + 2)) h18 κ = κ (.a (encA ⟨a, b, c, d⟩)) := fun κ => by rw [ln_a (sz := 4) g18 (by simp [encM])]; rfl
  have x5 : ∀ κ : V → Prop, pw.ln 4 (.p q (0 + 6)) h18 κ = κ (.a (encA ⟨a, b, c, d⟩)) := fun κ => by rw [ln_a (sz := 4) q18 (by simp [encS])]; rfl
  have x6 : ∀ κ : V → Prop, pw.l1 (.p q (0 + 10)) h18 κ = κ (.b true) := fun κ => l1_a q18 rfl
  have x7 : ∀ κ : V → Prop, pw.l1 (.p q (0 + 5)) h18 κ = κ (.i .i64 9) := fun κ => l1_a q18 rfl
  simp (disch := omega) only [ws, x1, x2, x3, x4, x5, x6, eq_i, dec_f]
  rw [nead, decide_eq_true rfl]
  simp (disch := omega) only [ws, Bool.not_true, x6, F31_20, eq_i, gt_i, dec_f, F31_25, x7]
  have o8 : (8 : Nat) < (encM ⟨17, valD 0 tO, ⟨a, b, c, d⟩, valD 0 tI, 3, 0⟩).length := by simp [encM]
  refine s1_a (o := 0 + 8) g18 (by simp [encM]) rfl fun h35 g35 f35 => ?_
  have g35' : h35.mem.get r15 = some (.c (encM ⟨17, valD 0 tO, ⟨a, b, c, d⟩, valD 0 tI, 3, 9 + valD 0 tS⟩) 55 true) := g35
  have q35 := f35.get (by omega) (fun e => by have := Option.some.inj e; omega) q18
  rw [ln_w (sz := 9) g35' rfl]
  have fz : But h h35 none := ((((((((f1.trans f7).trans f9).trans f11).trans f13).trans f1516).trans f18).over f35 (.inr fun z e => by cases e; omega)))
  have x8 : ∀ κ : V → Prop, pw.l1 (.p q (0 + 5)) h35 κ = κ (.i .i64 9) := fun κ => l1_a q35 rfl
  simp (disch := omega) only [ws, x8]
  refine (put h35 (fz.2.2 hbd) fz).mono fun v' h42 _ hbd42 _ hk => ?_
  rcases hk with ⟨e, hk⟩ | ⟨e, hk⟩ <;> subst e
  · simp (disch := omega) only [ws, eq_i]
    try simp (disch := omega) only [ws, dec_t]
    exact fun hb => hk hb
  · simp (disch := omega) only [ws, eq_i]
    try simp (disch := omega) only [ws, dec_t, dec_f]
    exact fun hb => hk hb


theorem addU {p k : Nat} (h1 : 1 ≤ p) (h2 : p ≤ 65535) (hk : k < 256) : AddU (argsA (digs p) udp (digs 80) (adrT 10 0 0 k) (digs 60)) (digs p) (digs 80) (digs 60) 10 0 0 k :=
  ⟨says_o (by omega) rfl, ⟨by simp [argsA], ⟨1, nProto, by kernel_rfl, rfl⟩, by decide, by decide⟩, says_i (by omega) rfl, says_c (by omega) (by omega) (by omega) hk, says_s (by omega) rfl, numT (by omega), numT (by omega), numT (by omega), by omega, by omega, by omega, hk, by rw [val_digs (by omega)]; omega, by rw [val_digs (by omega)]; omega, by rw [val_digs (by omega)]; omega⟩

theorem uM_may {p : Nat} (h1 : 1 ≤ p) (h2 : p ≤ 65535) : May2 (uM p) 9 := ⟨.inr rfl, by show (1 : Int) ≤ p ∧ (p : Int) ≤ 65535; omega, by show (1 : Int) ≤ 80 ∧ (80 : Int) ≤ 65535; decide, rfl, by show (9 : Int) < 69; decide⟩
theorem tpx {t : Int} (h : t = 0 ∨ t = 9) : timeP t 9 = 9 := by rcases h with e | e <;> subst e <;> decide

/-- One more mapping of the host. -/
theorem doU_ok {n : Nat} (hn : 9 ≤ n) {i : Nat} (hi : i < 20) {tn : Int} (htn : tn = 0 ∨ tn = 9) {rt : Nat} {c : Option Nat} {v : V} {h : H} {K : V → H → Prop} (ht : PT h rt c 40000 50 tn (esN i)) (hv : VecE h v 49 2 encG (argsA (digs (200 - i)) udp (digs 80) (adrT 10 0 0 5) (digs 60)))
    (k : ∀ h' c', Bd h' → But2 h h' rt c → (c' = c ∨ ∃ z, c' = some z ∧ h.next ≤ z) → PT h' rt c' 40000 50 9 (esN i ++ [uM (200 - i)]) → K (.t [.ns, .i .i64 0]) h') :
    Ok Tryz.prog n 15 [.p rt 0, .a [.s nAdd, v], .a (encS ⟨10, 0, 0, 5⟩)] h K := by
  obtain ⟨n, rfl⟩ := Nat.exists_eq_add_of_le' hn
  intro hbd
  refine do_add (n := n + 9) (by omega) hv (fun g1 rd hbd1 f1 hrd _ => saddU_ok (by omega) (addU (p := 200 - i) (k := 5) (by omega) (by omega) (by omega)) hrd fun g2 hbd2 f2 => ?_) hbd
  rw [val_digs (show 200 - i < 1000000 by omega), val_digs (show 80 < 1000000 by omega), val_digs (show 60 < 1000000 by omega)]
  have f12 := f1.trans f2
  have hno : ∀ e ∈ esN i, ¬ (e.p = 17 ∧ e.o = ((200 - i : Nat) : Int)) := by
    intro e he
    obtain ⟨j, hj, h | h⟩ := esN_mem.1 he <;> subst h
    · rintro ⟨_, e⟩
      simp only [uM] at e
      omega
    · rintro ⟨_, e⟩
      simp only [aM] at e
      omega
  refine putN_ok (m := uM (200 - i)) (tn := tn) (by omega) (by rw [esN_len]; omega) (by rw [tpx htn]; exact uM_may (by omega) (by omega)) ?_ (fun e he => ?_) (ht.keep hbd f12) fun h' c' hbd' f' hc' ht' => .inl ⟨rfl, fun hb => fun _ => k h' c' hb ((f12.two (.inl rfl)).trans f') ?_ ?_⟩
  · rw [tpx htn]
    have : cntL 9 (esN i) = 2 * i := by
      show (liv 9 (esN i)).length = _
      rw [esN_liv, esN_len]
    omega
  · have h1 := hno e he
    unfold fdE
    by_cases h2 : e.p = 17
    · by_cases h3 : e.o = ((200 - i : Nat) : Int)
      · exact absurd ⟨h2, h3⟩ h1
      · rw [show decide (e.o = (uM (200 - i)).o) = false from decide_eq_false h3]; simp
    · rw [show decide (e.p = (uM (200 - i)).p) = false from decide_eq_false h2]; simp
  · rcases hc' with e | ⟨z, e, hz⟩
    · exact .inl e
    · exact .inr ⟨z, e, Nat.le_trans f12.1 hz⟩
  · rw [tpx htn] at ht'
    have e : (esN i).filter (fun e => !sameE (uM (200 - i)) e) = esN i := by
      rw [List.filter_eq_self]
      intro e he
      have h1 := hno e he
      simp only [sameE, Bool.not_eq_true', Bool.and_eq_false_iff, decide_eq_false_iff_not]
      show ¬ e.p = 17 ∨ ¬ e.o = ((200 - i : Nat) : Int)
      omega
    rw [e] at ht'
    exact ht'
end Go.Proofs.YtbkhielalbbopaaGreatDoor.Wb
