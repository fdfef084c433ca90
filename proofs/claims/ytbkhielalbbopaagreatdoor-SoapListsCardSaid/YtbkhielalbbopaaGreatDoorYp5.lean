/- Arguments read by their names. -/
import Derived.Test.YtbkhielalbbopaaGreatDoorYp4
set_option linter.unusedSimpArgs false
set_option linter.unusedVariables false
set_option linter.unusedSectionVars false
set_option linter.unnecessarySimpa false
set_option maxRecDepth 100000
namespace Go.Proofs.YtbkhielalbbopaaGreatDoor.Wb
open Go Go.Am Go.Am.Xm

abbrev Ag := Bs × Bs
def encG (e : Ag) : List V := [.s e.1, .s e.2]
theorem encG_len (e : Ag) : (encG e).length = 2 := rfl

theorem a_index_loop {n : Nat} {h0 : H} (hbd0 : Bd h0) {v clo : V} {es : List Ag} {pr : Ag → Bool} (hv : VecE h0 v 49 2 encG es) (hl : es.length ≤ 10000) {c : Option Nat} (hc : ClP Tryz.prog n h0 c clo encG es pr) {K : V → H → Prop} (hk : ∀ h', Bd h' → But h0 h' none → K (.i .i64 (fndP pr es 0)) h') :
    ∀ (fuel k : Nat) (h : H), es.length < fuel + k → k ≤ es.length → Bd h → But h0 h none → fndP pr (es.drop k) k = fndP pr es 0 →
    F123_9 pw xx (Ok Tryz.prog n) K fuel v clo (.i .i64 (es.length : Nat)) (.i .i64 (k : Nat)) h := by
  intro fuel
  induction fuel with
  | zero => intro k h h1 h2; omega
  | succ fuel ih =>
    intro k h h1 h2 hbd hb hf
    rw [S123_9]
    by_cases hlt : k < es.length
    · simp (disch := omega) only [ws, dec_t, F123_15]
      refine vece_at encG_len (hv.keep (hv.lt hbd0) hb (.inr rfl)) rfl hlt fun b ha => ?_
      rw [ha.all]
      have hd : es.drop k = es[k] :: es.drop (k + 1) := List.drop_eq_getElem_cons hlt
      rw [hd] at hf
      simp only [fndP] at hf
      refine hc.call (List.getElem_mem hlt) hbd (hb.none c) fun h' hbd' hb' => ?_
      cases he : pr es[k] with
      | true =>
        simp (disch := omega) only [ws]
        rw [if_pos he] at hf
        have := hk h' hbd' (hb.trans hb')
        rw [← hf] at this
        exact this
      | false =>
        simp (disch := omega) only [ws, F123_20]
        rw [if_neg (by rw [he]; simp)] at hf
        exact ih (k + 1) h' (by omega) (by omega) hbd' (hb.trans hb') hf
    · simp (disch := omega) only [ws, dec_f, F123_4]
      rw [List.drop_eq_nil_of_le (by omega)] at hf
      have := hk h hbd hb
      rw [← hf] at this
      exact this

theorem a_index_ok {n : Nat} (hn : 1 ≤ n) {h0 : H} {v clo : V} {es : List Ag} {pr : Ag → Bool} (hv : VecE h0 v 49 2 encG es) (hl : es.length ≤ 10000) {c : Option Nat} (hc : ClP Tryz.prog (n - 1) h0 c clo encG es pr) {K : V → H → Prop} (hk : ∀ h', Bd h' → But h0 h' none → K (.i .i64 (fndP pr es 0)) h') : Ok Tryz.prog n 123 [v, clo] h0 K := by
  obtain ⟨n, rfl⟩ := Nat.exists_eq_add_of_le' hn
  refine K123 fun hbd0 => ?_
  simp (disch := omega) only [F123, vece_len tt23 rfl hv]
  exact a_index_loop hbd0 hv hl hc hk 100000 0 h0 (by omega) (by omega) hbd0 (But.refl _ _) rfl


/-- A reader at a block: its arguments, nothing bad. -/
def Rd (h : H) (r : Nat) (v : V) (es : List Ag) : Prop := h.mem.get r = some (.c [v, .b false] 89 true) ∧ VecE h v 49 2 encG es
theorem Rd.keep {h h' : H} {r : Nat} {v : V} {es : List Ag} (hr : Rd h r v es) (hbd : Bd h) (f : But h h' none) : Rd h' r v es := ⟨f.get (hbd _ _ hr.1) (by simp) hr.1, hr.2.keep (hr.2.lt hbd) f (.inr rfl)⟩

theorem cl_ok {n : Nat} (hn : 1 ≤ n) {e : Ag} {nm : Bs} {q : Nat} {h : H} {K : V → H → Prop} (hq : h.mem.get q = some (.c [.s nm] 9 true)) (k : ∀ h', But h h' none → K (.b (e.1 == nm)) h') : Ok Tryz.prog n 124 [.a (encG e), .p q 0] h K := by
  obtain ⟨n, rfl⟩ := Nat.exists_eq_add_of_le' hn
  refine Ok.bd (K124 fun hbd => ?_)
  unfold F124
  refine bx_a (cs := encG e) rfl fun r h1 g1 f1 _ _ => ?_
  rw [fa_p, l1_a g1 (x := .s e.1) rfl, l1_a (f1.get (hbd _ _ hq) (by simp) hq) rfl, eq_s]
  exact fun _ => k h1 f1

/-- What an argument says. -/
structure Says (es : List Ag) (nm t : Bs) : Prop where
  len : es.length ≤ 100
  at_ : ∃ i : Nat, ∃ nm2, fndP (fun e : Ag => e.1 == nm) es 0 = i ∧ es[i]? = some (nm2, t)
  lt : t.length < 50000
  no : ∀ c ∈ t, inS [32, 9, 10, 13] c = false

theorem text_ok {n : Nat} (hn : 4 ≤ n) {es : List Ag} {nm t : Bs} {r : Nat} {v : V} (hs : Says es nm t) {h : H} {K : V → H → Prop} (hr : Rd h r v es) (k : ∀ h', Bd h' → But h h' none → K (.s t) h') : Ok Tryz.prog n 97 [.p r 0, .s nm] h K := by
  obtain ⟨n, rfl⟩ := Nat.exists_eq_add_of_le' hn
  refine Ok.bd (K97 (n := n + 3) fun hbd => ?_)
  unfold F97
  refine bx_a (cs := [.s nm]) rfl fun q h1 g1 f1 _ hq => ?_
  have hr1 := hr.keep hbd f1
  have hbd1 := f1.2.2 hbd
  rw [nl_p, fa_p, l1_a hr1.1 (x := v) rfl, cf_k]
  have hcl : ClP Tryz.prog (n + 2) h1 none (.f 124 [.p q 0]) encG es (fun e => e.1 == nm) := ClP.mk fun e he h4 K4 hbd4 hb4 hk4 => Ok.bd (cl_ok (by omega) (hb4.get hq (by simp) g1) fun h5 f5 hb5 => hk4 h5 hb5 f5)
  refine a_index_ok (n := n + 3) (by omega) hr1.2 (by have := hs.len; omega) hcl fun h2 hbd2 f2 => ?_
  obtain ⟨i, nm2, e1, e2⟩ := hs.at_
  rw [e1, lt_i, decide_eq_false (show ¬ ((i : Int) < 0) by omega), cd_f]
  unfold F97_12
  have hr2 := hr1.keep hbd1 f2
  rw [nl_p, fa_p, l1_a hr2.1 (x := v) rfl]
  have hi : i < es.length := (List.getElem?_eq_some_iff.1 e2).1
  refine vece_at encG_len hr2.2 rfl hi fun b ha => ?_
  have e3 : es[i] = (nm2, t) := (List.getElem?_eq_some_iff.1 e2).2
  rw [fa_p, ha.get (f := 1) (x := .s t) (by rw [e3]; rfl)]
  rw [show cstW (wL (wR (wR (wR (bdyW Tryz.f97))))) 8 2 = .s [32, 9, 10, 13] by kernel_rfl, cf_k]
  exact Ok.bd (trimB_ok (by omega) (by decide) (by decide) (by decide) hs.lt (.inl ⟨hs.no, fun h3 f3 hb3 => fun _ => k h3 hb3 ((f1.trans f2).trans f3)⟩))

structure NumT (t : Bs) : Prop where
  dg : ∀ c ∈ t, ∃ m, m < 10 ∧ c = dg m
  ne : t ≠ []
  len : t.length ≤ 10

theorem number_ok {n : Nat} (hn : 6 ≤ n) {es : List Ag} {nm t : Bs} {r : Nat} {v : V} (hs : Says es nm t) (ht : NumT t) (hb : valD 0 t < 1000000000000) {h : H} {K : V → H → Prop} (hr : Rd h r v es) (k : ∀ h', Bd h' → But h h' none → K (.i .i64 (valD 0 t)) h') : Ok Tryz.prog n 63 [.p r 0, .s nm] h K := by
  obtain ⟨n, rfl⟩ := Nat.exists_eq_add_of_le' hn
  refine Ok.bd (K63 (n := n + 5) fun hbd => ?_)
  unfold F63
  rw [cf_k]
  refine text_ok (by omega) hs hr fun h1 hbd1 f1 => ?_
  have h0 : 0 < t.length := List.length_pos_iff.2 ht.ne
  have h10 := ht.len
  rw [lg_s tt9 rfl, lt_i, decide_eq_false (show ¬ ((t.length : Int) < 1) by omega)]
  simp only [g0_f]
  rw [lg_s tt9 rfl]
  rw [gt_i, decide_eq_false (show ¬ ((10 : Int) < (t.length : Int)) by omega)]
  simp only [pk_f, g0_f]
  rw [show cstW (wL (wL (wR (wR (bdyW Tryz.f63))))) 10 2 = .s [48, 49, 50, 51, 52, 53, 54, 55, 56, 57] by kernel_rfl, cf_k]
  refine Ok.bd (trimB_ok (by omega) (by decide) (by decide) (by decide) hs.lt (.inr ⟨fun c hc => ?_, fun h2 f2 hbd2 => ?_⟩))
  · obtain ⟨m, hm, e⟩ := ht.dg c hc
    rw [e]
    exact (dg_in hm).1
  · rw [ne_s]
    simp only [BEq.rfl, Bool.not_true, pk_f, cd_f]
    unfold F63_8
    rw [cf_k]
    refine Ok.bd (pint_ok (by omega) ht.dg ht.ne (by omega) hb fun h3 f3 hbd3 => ?_)
    simp only [ex_t, List.getElem?_cons_zero, List.getElem?_cons_succ, oP_some]
    exact fun _ => k h3 hbd3 ((f1.trans f2).trans f3)

theorem rport_ok {n : Nat} (hn : 7 ≤ n) {es : List Ag} {nm t : Bs} {r : Nat} {v : V} (hs : Says es nm t) (ht : NumT t) (hb : valD 0 t ≤ 65535) {h : H} {K : V → H → Prop} (hr : Rd h r v es) (k : ∀ h', Bd h' → But h h' none → K (.i .i64 (valD 0 t)) h') : Ok Tryz.prog n 60 [.p r 0, .s nm] h K := by
  obtain ⟨n, rfl⟩ := Nat.exists_eq_add_of_le' hn
  refine Ok.bd (K60 (n := n + 6) fun hbd => ?_)
  unfold F60
  rw [cf_k]
  refine number_ok (by omega) hs ht (by omega) hr fun h1 hbd1 f1 => ?_
  rw [gt_i, decide_eq_false (show ¬ ((65535 : Int) < ((valD 0 t : Nat) : Int)) by omega), cd_f]
  unfold F60_8
  exact fun _ => k h1 hbd1 f1

def tcp : Bs := [84, 67, 80]
def nProto : Bs := "NewProtocol".toUTF8.data.toList
def nClient : Bs := "NewInternalClient".toUTF8.data.toList
def nOut : Bs := "NewExternalPort".toUTF8.data.toList
def nIn : Bs := "NewInternalPort".toUTF8.data.toList
def nSecs : Bs := "NewLeaseDuration".toUTF8.data.toList
theorem rproto_ok {n : Nat} (hn : 5 ≤ n) {es : List Ag} {r : Nat} {v : V} (hs : Says es nProto tcp) {h : H} {K : V → H → Prop} (hr : Rd h r v es) (k : ∀ h', Bd h' → But h h' none → K (.i .i64 6) h') : Ok Tryz.prog n 61 [.p r 0] h K := by
  obtain ⟨n, rfl⟩ := Nat.exists_eq_add_of_le' hn
  refine Ok.bd (K61 (n := n + 4) fun hbd => ?_)
  unfold F61
  rw [show cstW (wL (wL (wR (bdyW Tryz.f61)))) 1 2 = .s nProto by kernel_rfl, cf_k]
  refine text_ok (by omega) hs hr fun h1 hbd1 f1 => ?_
  rw [show cstW (wL (wL (wR (wL (wR (bdyW Tryz.f61)))))) 0 1 = .s tcp by kernel_rfl, eq_s]
  simp only [BEq.rfl, cd_t]
  exact fun _ => k h1 hbd1 f1

theorem rclient_ok {n : Nat} (hn : 5 ≤ n) {es : List Ag} {r : Nat} {v : V} {a b c d : Nat} (ha : a < 256) (hb : b < 256) (hc : c < 256) (hd : d < 256) (hs : Says es nClient (adrT a b c d)) {h : H} {K : V → H → Prop} (hr : Rd h r v es) (k : ∀ h', Bd h' → But h h' none → K (.a (encA ⟨a, b, c, d⟩)) h') : Ok Tryz.prog n 62 [.p r 0] h K := by
  obtain ⟨n, rfl⟩ := Nat.exists_eq_add_of_le' hn
  refine Ok.bd (K62 (n := n + 4) fun hbd => ?_)
  unfold F62
  refine al_a tt41 fun r2 h2 g2 f2 hr2 hr2' => ?_
  rw [show cstW (wL (wR (bdyW Tryz.f62))) 1 2 = .s nClient by kernel_rfl, cf_k]
  refine text_ok (by omega) hs (hr.keep hbd f2) fun h4 hbd4 f4 => ?_
  rw [cf_k]
  refine Ok.bd (parse_ok (by omega) ha hb hc hd fun h5 f5 hbd5 => ?_)
  simp only [ex_t, List.getElem?_cons_zero, List.getElem?_cons_succ, oP_some]
  refine al_a tt41 fun r9 h9 g9 f9 hr9 hr9' => ?_
  refine sn_w (sz := 4) (cs := encA ⟨a, b, c, d⟩) g9 rfl rfl rfl rfl fun h10 g10 f10 => ?_
  rw [ne_i, decide_eq_true rfl]
  simp only [Bool.not_true, cd_f]
  unfold F62_12
  rw [ln_w (sz := 4) g10 rfl]
  have n4 := f4.1
  have n5 := f5.1
  have n9 := f9.1
  have n10 := f10.1
  have g2' := f10.get (by omega) (fun e => by have := Option.some.inj e; omega) (f9.get (by omega) (by simp) (f5.get (by omega) (by simp) (f4.get hr2' (by simp) g2)))
  refine sn_w (sz := 4) (cs := encA ⟨a, b, c, d⟩) g2' rfl rfl rfl rfl fun h11 g11 f11 => ?_
  rw [ln_w (sz := 4) g11 rfl]
  have n2 := f2.1
  exact fun hb' => k h11 hb' (((((f2.trans f4).trans f5).trans f9).over f10 (.inr fun z e => by cases e; omega)).over f11 (.inr fun z e => by cases e; omega))
end Go.Proofs.YtbkhielalbbopaaGreatDoor.Wb
