/- One host's mapping: the law's calls. -/
import Derived.Test.YtbkhielalbbopaaGreatDoorYp8
set_option linter.unusedSimpArgs false
set_option linter.unusedVariables false
set_option linter.unusedSectionVars false
set_option linter.unnecessarySimpa false
set_option maxRecDepth 100000
namespace Go.Proofs.YtbkhielalbbopaaGreatDoor.Wb
open Go Go.Am Go.Am.Xm

theorem usual_ok {n : Nat} (hn : 2 ≤ n) {h : H} {K : V → H → Prop} (k : ∀ h', Bd h' → But h h' none → K (.a (encS ⟨10, 0, 0, 5⟩)) h') : Ok Tryz.prog n 14 [] h K := by
  obtain ⟨n, rfl⟩ := Nat.exists_eq_add_of_le' hn
  refine Ok.bd (K14 (n := n + 1) fun hbd => ?_)
  unfold F14
  refine al_a tt43 fun q h1 g1 f1 hq hq' => ?_
  refine bl_a (v := .a (encA ⟨203, 0, 113, 7⟩)) ?_ ?_
  · simp only [blW, ti, tt41, tt5, placesArr, cellsOfV, fillA]; rfl
  rw [cf_k]
  refine at_ok (by omega) (by omega) fun h3 hbd3 f3 => ?_
  refine bl_a (v := .a (encS ⟨10, 0, 0, 5⟩)) ?_ ?_
  · simp only [blW, ti, tt43, placesSt, encA, cellsOfV, List.getElem?_cons_zero, List.getElem?_cons_succ, fillA]; rfl
  have g3 := f3.get hq' (by simp) g1
  refine sn_w (sz := 11) (cs := encS ⟨10, 0, 0, 5⟩) g3 rfl rfl rfl rfl fun h5 g5 f5 => ?_
  rw [ln_w (sz := 11) g5 rfl]
  exact fun hb => k h5 hb ((f1.trans f3).over f5 (.inr fun z e => by cases e; exact hq))

def argsA (p pr i ct s : Bs) : List Ag := [(nOut, p), (nProto, pr), (nIn, i), (nClient, ct), (nSecs, s)]

theorem vec_lit {h : H} {q : Nat} {es : List Ag} (hg : h.mem.get q = some (.c (encs encG es) 49 true)) : VecE h (.sl q 0 es.length es.length false) 49 2 encG es := by
  have hl : (encs encG es).length = es.length * 2 := encs_len encG_len es
  exact ⟨hl, .inr ⟨q, _, _, _, rfl, hg, Nat.le_refl _, hl, by rw [← hl, List.take_length]⟩⟩

theorem call_ok {n : Nat} (hn : 1 ≤ n) {p pr i ct s : Bs} {h : H} {K : V → H → Prop} (k : ∀ h' v, Bd h' → But h h' none → VecE h' v 49 2 encG (argsA p pr i ct s) → K (.a [.s nAdd, v]) h') : Ok Tryz.prog n 16 [.s p, .s pr, .s i, .s ct, .s s] h K := by
  obtain ⟨n, rfl⟩ := Nat.exists_eq_add_of_le' hn
  refine Ok.bd (K16 (n := n) fun hbd => ?_)
  unfold F16
  refine al_a tt25 fun q h1 g1 f1 hq hq' => ?_
  rw [show cstW (wL (wR (bdyW Tryz.f16))) 1 0 = .s nOut by kernel_rfl, show cstW (wL (wR (bdyW Tryz.f16))) 3 0 = .s nProto by kernel_rfl, show cstW (wL (wR (bdyW Tryz.f16))) 5 0 = .s nIn by kernel_rfl, show cstW (wL (wR (bdyW Tryz.f16))) 7 0 = .s nClient by kernel_rfl, show cstW (wL (wR (bdyW Tryz.f16))) 9 0 = .s nSecs by kernel_rfl, show cstW (wL (wR (bdyW Tryz.f16))) 11 0 = .s nAdd by kernel_rfl]
  have b49 : ∀ (a b : Bs), blW (mkX Tryz.prog) 49 [(0, .s a), (1, .s b)] = some (.a [.s a, .s b]) := fun a b => by
    unfold blW
    rw [ti_some _ tt49]
    rfl
  refine bl_a (b49 _ _) (bl_a (b49 _ _) (bl_a (b49 _ _) (bl_a (b49 _ _) (bl_a (b49 _ _) ?_))))
  refine bs_a (cs := encs encG (argsA p pr i ct s)) tt23 rfl tt49 (by decide) rfl rfl fun q2 h2 g2 f2 hq2 hq2' => ?_
  have hv := vec_lit g2
  refine bl_a (v := .a [.s nAdd, .sl q2 0 5 5 false]) ?_ ?_
  · unfold blW
    rw [ti_some _ tt25]
    rfl
  have g12 := f2.get hq' (by simp) g1
  refine sn_w (sz := 2) (cs := [.s nAdd, .sl q2 0 5 5 false]) g12 rfl rfl rfl rfl fun h5 g5 f5 => ?_
  rw [ln_w (sz := 2) g5 rfl]
  have n1 := f1.1
  have n2 := f2.1
  exact fun hb => k h5 _ hb ((f1.trans f2).over f5 (.inr fun z e => by cases e; exact hq)) (hv.keep (fun z e => by cases e; exact hq2') f5 (.inl fun e => by cases e; omega))

/-! ### What the arguments say -/
theorem no_digs {m : Nat} (hm : m < 1000000) : ∀ c ∈ digs m, inS [32, 9, 10, 13] c = false := fun c hc => by
  obtain ⟨z, hz, e⟩ := digs_mem 5 m (by omega) c hc
  rw [e]
  exact (dg_in hz).2
theorem no_adrT {a b c d : Nat} (ha : a < 256) (hb : b < 256) (hc : c < 256) (hd : d < 256) : ∀ x ∈ adrT a b c d, inS [32, 9, 10, 13] x = false := fun x hx => by
  rcases adrT_mem ha hb hc hd x hx with e | ⟨z, hz, e⟩
  · rw [e]; decide
  · rw [e]; exact (dg_in hz).2
theorem numT {m : Nat} (hm : m < 1000000) : NumT (digs m) := ⟨digs_mem 5 m (by omega), digs_ne m, by have := digs_len 5 m (by omega); omega⟩

theorem says_o {p pr i ct s : Bs} {m : Nat} (hm : m < 1000000) (e : p = digs m) : Says (argsA p pr i ct s) nOut p := by
  refine ⟨by simp [argsA], ⟨0, nOut, by kernel_rfl, rfl⟩, ?_, ?_⟩
  · rw [e]; have := digs_len 5 m (by omega); omega
  · rw [e]; exact no_digs hm
theorem says_p {p i ct s : Bs} : Says (argsA p tcp i ct s) nProto tcp := ⟨by simp [argsA], ⟨1, nProto, by kernel_rfl, rfl⟩, by decide, by decide⟩
theorem says_i {p pr i ct s : Bs} {m : Nat} (hm : m < 1000000) (e : i = digs m) : Says (argsA p pr i ct s) nIn i := by
  refine ⟨by simp [argsA], ⟨2, nIn, by kernel_rfl, rfl⟩, ?_, ?_⟩
  · rw [e]; have := digs_len 5 m (by omega); omega
  · rw [e]; exact no_digs hm
theorem says_c {p pr i s : Bs} {a b c d : Nat} (ha : a < 256) (hb : b < 256) (hc : c < 256) (hd : d < 256) : Says (argsA p pr i (adrT a b c d) s) nClient (adrT a b c d) :=
  ⟨by simp [argsA], ⟨3, nClient, by kernel_rfl, rfl⟩, by have := adrT_len ha hb hc hd; omega, no_adrT ha hb hc hd⟩
theorem says_s {p pr i ct s : Bs} {m : Nat} (hm : m < 1000000) (e : s = digs m) : Says (argsA p pr i ct s) nSecs s := by
  refine ⟨by simp [argsA], ⟨4, nSecs, by kernel_rfl, rfl⟩, ?_, ?_⟩
  · rw [e]; have := digs_len 5 m (by omega); omega
  · rw [e]; exact no_digs hm
theorem val_digs {m : Nat} (hm : m < 1000000) : valD 0 (digs m) = m := valD_digs 5 m (by omega)

theorem addA {m k : Nat} (h1 : 1 ≤ m) (h2 : m ≤ 65535) (hk : k < 256) : AddA (argsA (digs m) tcp (digs 80) (adrT 10 0 0 k) (digs 60)) (digs m) (digs 80) (digs 60) 10 0 0 k :=
  ⟨says_o (by omega) rfl, says_p, says_i (by omega) rfl, says_c (by omega) (by omega) (by omega) hk, says_s (by omega) rfl, numT (by omega), numT (by omega), numT (by omega), by omega, by omega, by omega, hk, by rw [val_digs (by omega)]; omega, by rw [val_digs (by omega)]; omega, by rw [val_digs (by omega)]; omega⟩

def argsD (p : Bs) : List Ag := [(nOut, p), (nProto, tcp)]
theorem delA {m : Nat} (h2 : m ≤ 65535) : DelA (argsD (digs m)) (digs m) := by
  refine ⟨⟨by simp [argsD], ⟨0, nOut, by kernel_rfl, rfl⟩, ?_, no_digs (by omega)⟩, ⟨by simp [argsD], ⟨1, nProto, by kernel_rfl, rfl⟩, by decide, by decide⟩, numT (by omega), by rw [val_digs (by omega)]; omega⟩
  have := digs_len 5 m (by omega)
  omega

def mA (m : Nat) (k : Int) : Mp := ⟨6, m, ⟨10, 0, 0, k⟩, 80, 3, 69⟩
theorem tp0 : timeP 0 9 = 9 := by decide
theorem tp9 : timeP 9 9 = 9 := by decide
theorem mA_may {m k : Nat} (h1 : 1 ≤ m) (h2 : m ≤ 65535) : May (mA m k) 9 := ⟨rfl, by show (1 : Int) ≤ m ∧ (m : Int) ≤ 65535; omega, by show (1 : Int) ≤ 80 ∧ (80 : Int) ≤ 65535; decide, rfl, by show (9 : Int) < 69; decide⟩

/-- The first host's mapping is let be. -/
theorem doA_ok {n : Nat} (hn : 9 ≤ n) {m : Nat} (h1 : 1 ≤ m) (h2 : m ≤ 65535) {rt : Nat} {v : V} {h : H} {K : V → H → Prop} (ht : PT h rt none 40000 9 0 []) (hv : VecE h v 49 2 encG (argsA (digs m) tcp (digs 80) (adrT 10 0 0 5) (digs 60)))
    (k : ∀ h' c', Bd h' → But2 h h' rt none → (c' = none ∨ ∃ z, c' = some z ∧ h.next ≤ z) → PT h' rt c' 40000 9 9 [mA m 5] → K (.t [.ns, .i .i64 0]) h') :
    Ok Tryz.prog n 15 [.p rt 0, .a [.s nAdd, v], .a (encS ⟨10, 0, 0, 5⟩)] h K := by
  obtain ⟨n, rfl⟩ := Nat.exists_eq_add_of_le' hn
  intro hbd
  refine do_add (n := n + 9) (by omega) hv (fun g1 rd hbd1 f1 hrd _ => sadd_ok (by omega) (addA (k := 5) h1 h2 (by omega)) hrd fun g2 hbd2 f2 => ?_) hbd
  rw [val_digs (show m < 1000000 by omega), val_digs (show 80 < 1000000 by omega), val_digs (show 60 < 1000000 by omega)]
  have f12 := f1.trans f2
  refine put0_ok (m := mA m 5) (tn := 0) (by omega) (by rw [tp0]; exact mA_may (k := 5) h1 h2) (by omega) (ht.keep hbd f12) fun h' c' hbd' f' hc' ht' => .inl ⟨rfl, fun hb => fun _ => k h' c' hb ((f12.two (.inl rfl)).trans f') ?_ (by rw [tp0] at ht'; exact ht')⟩
  rcases hc' with e | ⟨z, e, hz⟩
  · exact .inl e
  · exact .inr ⟨z, e, Nat.le_trans f12.1 hz⟩

/-- Another's: the port is taken. -/
theorem doB_ok {n : Nat} (hn : 9 ≤ n) {m o : Nat} (h1 : 1 ≤ m) (h2 : m ≤ 65535) (ho : o < 256) (ho5 : o ≠ 5) {rt : Nat} {c : Option Nat} {v : V} {h : H} {K : V → H → Prop} (ht : PT h rt c 40000 9 9 [mA m 5]) (hv : VecE h v 49 2 encG (argsA (digs m) tcp (digs 80) (adrT 10 0 0 o) (digs 60)))
    (k : ∀ h', Bd h' → But h h' (some rt) → PT h' rt c 40000 9 9 [mA m 5] → K (.t [.ns, .i .i64 718]) h') :
    Ok Tryz.prog n 15 [.p rt 0, .a [.s nAdd, v], .a (encS ⟨10, 0, 0, o⟩)] h K := by
  obtain ⟨n, rfl⟩ := Nat.exists_eq_add_of_le' hn
  intro hbd
  refine do_add (n := n + 9) (by omega) hv (fun g1 rd hbd1 f1 hrd _ => sadd_ok (by omega) (addA h1 h2 ho) hrd fun g2 hbd2 f2 => ?_) hbd
  rw [val_digs (show m < 1000000 by omega), val_digs (show 80 < 1000000 by omega), val_digs (show 60 < 1000000 by omega)]
  have f12 := f1.trans f2
  refine put1_ok (m := mA m o) (m1 := mA m 5) (tn := 9) (by omega) (by rw [tp9]; exact mA_may h1 h2) (by rw [tp9]; simp [fdE, lvE, mA]) rfl (fun e => ?_) (ht.keep hbd f12) fun h' hbd' f' ht' => .inr ⟨rfl, fun hb => fun _ => k h' hb ((f12.none _).trans f') (by rw [tp9] at ht'; exact ht')⟩
  have : (5 : Int) = (o : Int) := congrArg Ad.d e
  omega

theorem liveA {m : Nat} (h2 : m ≤ 65535) : LiveM (mA m 5) (valD 0 (digs m)) (timeP 9 9) := by
  rw [tp9, val_digs (by omega)]
  exact ⟨rfl, rfl, rfl, by show (9 : Int) < 69; decide⟩

theorem doC_ok {n : Nat} (hn : 9 ≤ n) {m o : Nat} (h2 : m ≤ 65535) (ho5 : o ≠ 5) {rt : Nat} {c : Option Nat} {v : V} {h : H} {K : V → H → Prop} (ht : PT h rt c 40000 9 9 [mA m 5]) (hv : VecE h v 49 2 encG (argsD (digs m)))
    (k : ∀ h', Bd h' → But h h' (some rt) → PT h' rt c 40000 9 9 [mA m 5] → K (.t [.ns, .i .i64 714]) h') :
    Ok Tryz.prog n 15 [.p rt 0, .a [.s nDel, v], .a (encS ⟨10, 0, 0, o⟩)] h K := by
  obtain ⟨n, rfl⟩ := Nat.exists_eq_add_of_le' hn
  intro hbd
  refine do_del (n := n + 9) (by omega) hv (fun g1 rd hbd1 f1 hrd _ => sdrop_ok (by omega) (delA h2) (liveA h2) hrd (ht.keep hbd f1) (fun _ h' hbd' f' ht' => fun hb => k h' hb ((f1.none _).trans f') (by rw [tp9] at ht'; exact ht')) fun e => ?_) hbd
  have : (5 : Int) = (o : Int) := congrArg Ad.d e
  omega

theorem doD_ok {n : Nat} (hn : 9 ≤ n) {m : Nat} (h2 : m ≤ 65535) {rt : Nat} {c : Option Nat} {v : V} {h : H} {K : V → H → Prop} (ht : PT h rt c 40000 9 9 [mA m 5]) (hv : VecE h v 49 2 encG (argsD (digs m)))
    (k : ∀ h', Bd h' → But2 h h' rt c → PT h' rt c 40000 9 9 [] → K (.t [.ns, .i .i64 0]) h') :
    Ok Tryz.prog n 15 [.p rt 0, .a [.s nDel, v], .a (encS ⟨10, 0, 0, 5⟩)] h K := by
  obtain ⟨n, rfl⟩ := Nat.exists_eq_add_of_le' hn
  intro hbd
  refine do_del (n := n + 9) (by omega) hv (fun g1 rd hbd1 f1 hrd _ => sdrop_ok (by omega) (delA h2) (liveA h2) hrd (ht.keep hbd f1) (fun e => absurd rfl e) fun _ h' hbd' f' ht' => fun hb => k h' hb ((f1.two (.inl rfl)).trans f') (by rw [tp9] at ht'; exact ht')) hbd
end Go.Proofs.YtbkhielalbbopaaGreatDoor.Wb
