/- Write: what the program writes. -/
import Derived.Test.YtbkhielalbbopaaGreatDoorZf1
set_option linter.unusedSimpArgs false
set_option linter.unusedVariables false
set_option linter.unusedSectionVars false
set_option linter.unnecessarySimpa false
set_option maxRecDepth 100000
namespace Go.Proofs.YtbkhielalbbopaaGreatDoor.Wb
open Go Go.Am Go.Am.Xm

def outA (a : Ag) : Bs := [60] ++ a.1 ++ [62] ++ esc a.2 ++ [60, 47] ++ a.1 ++ [62]
def outS (al : List Ag) : Bs := al.flatMap outA
theorem outS_bodies : ∀ (al : List Ag), bodies (al.map agD) = outS al
  | [] => rfl
  | a :: al => by
    have h := outS_bodies al
    simp only [outS] at h
    simp [bodies, agD, Dc.body, outS, outA, h]
theorem outS_len {b : Nat} : ∀ (al : List Ag), (∀ a ∈ al, (outA a).length ≤ b) → (outS al).length ≤ al.length * b
  | [], _ => by simp [outS]
  | a :: al, h => by
    have h1 := outS_len al fun x hx => h x (List.mem_cons_of_mem _ hx)
    have h2 := h a (List.mem_cons_self ..)
    simp only [outS, List.flatMap_cons, List.length_append, List.length_cons, Nat.add_mul] at h1 ⊢
    omega

theorem resp_body (act : Bs) (al : List Ag) : 60 :: (respD act al).body = [60, 117, 58] ++ act ++ ([82, 101, 115, 112, 111, 110, 115, 101, 32, 120, 109, 108, 110, 115, 58, 117, 61, 34, 117, 114, 110, 58, 115, 99, 104, 101, 109, 97, 115, 45, 117, 112, 110, 112, 45, 111, 114, 103, 58, 115, 101, 114, 118, 105, 99, 101, 58, 87, 65, 78, 73, 80, 67, 111, 110, 110, 101, 99, 116, 105, 111, 110, 58, 49, 34, 62] : Bs) ++ outS al ++ [60, 47, 117, 58] ++ act ++ [82, 101, 115, 112, 111, 110, 115, 101, 62] := by
  simp [respD, Dc.body, outS_bodies, respS, resA, esc]
theorem fault_body {c : Nat} (hc : c < 1000) : 60 :: (faultD c).body = ([60, 115, 58, 70, 97, 117, 108, 116, 62, 60, 102, 97, 117, 108, 116, 99, 111, 100, 101, 62, 115, 58, 67, 108, 105, 101, 110, 116, 60, 47, 102, 97, 117, 108, 116, 99, 111, 100, 101, 62, 60, 100, 101, 116, 97, 105, 108, 62, 60, 85, 80, 110, 80, 69, 114, 114, 111, 114, 62, 60, 101, 114, 114, 111, 114, 67, 111, 100, 101, 62] : Bs) ++ digs c ++ [60, 47, 101, 114, 114, 111, 114, 67, 111, 100, 101, 62, 60, 47, 85, 80, 110, 80, 69, 114, 114, 111, 114, 62, 60, 47, 100, 101, 116, 97, 105, 108, 62, 60, 47, 115, 58, 70, 97, 117, 108, 116, 62] := by
  have he := esc_digs 2 c (by omega)
  have h1 : esc sClient = sClient := by decide
  simp only [faultD, Dc.body, bodies, he, h1]
  simp [sFault, sCode, sClient, sDetail, sUpnp, sErr, esc]
theorem doc_body (d : Dc) : docS d = ([60, 63, 120, 109, 108, 32, 118, 101, 114, 115, 105, 111, 110, 61, 34, 49, 46, 48, 34, 63, 62, 60, 115, 58, 69, 110, 118, 101, 108, 111, 112, 101, 32, 120, 109, 108, 110, 115, 58, 115, 61, 34, 104, 116, 116, 112, 58, 47, 47, 115, 99, 104, 101, 109, 97, 115, 46, 120, 109, 108, 115, 111, 97, 112, 46, 111, 114, 103, 47, 115, 111, 97, 112, 47, 101, 110, 118, 101, 108, 111, 112, 101, 47, 34, 62, 60, 115, 58, 66, 111, 100, 121, 62] : Bs) ++ (60 :: d.body) ++ [60, 47, 115, 58, 66, 111, 100, 121, 62, 60, 47, 115, 58, 69, 110, 118, 101, 108, 111, 112, 101, 62] := by
  simp [docS, headS, envD, Dc.body, bodies, sEnv, envA, sBody, esc]

/-- An answer's inside, as the program writes it. -/
theorem inner_ok {n : Nat} (hn : 10 ≤ n) {act : Bs} {av lv : V} {code : Nat} {al : List Ag} (hc : code < 1000) (ha : act.length ≤ 1000) (hl : al.length ≤ 100) (hb : ∀ a ∈ al, a.1.length ≤ 1000 ∧ a.2.length ≤ 1000) (ho : oneV av = true) {h : H} {K : V → H → Prop} (p : P10 h) (hv : VecE h lv 49 2 encA al)
    (k : ∀ h', But h h' none → K (.s (60 :: (if code = 0 then respD act al else faultD code).body)) h') : Ok Tryz.prog n 44 [.a [.s act, av], lv, .i .i64 code] h K := by
  obtain ⟨n, rfl⟩ := Nat.exists_eq_add_of_le' hn
  refine Ok.bd (K44 fun hbd => ?_)
  unfold F44
  have hlt := hv.lt hbd
  refine bx_a (cs := [.s act, av]) rfl fun r h1 g1 f1 r0 r1 => ?_
  rw [ne_i]
  by_cases h0 : code = 0
  · rw [decide_eq_true (show (code : Int) = 0 by omega), Bool.not_true, cd_f]
    rw [if_pos h0] at k
    unfold F44_6
    simp only [fa_p, Nat.zero_add, c44]
    rw [l1_a g1 (x := .s act) rfl, ad_s (by simp; omega), ad_s (by simp; omega)]
    have hv1 : VecE h1 lv 49 2 encA al := hv.keep hlt f1 (.inr rfl)
    rw [vece_len tt23 rfl hv1]
    have hA : ∀ a ∈ al, (outA a).length ≤ 10000 := fun a hm => by
      have h1 := hb a hm
      have h2 := esc_len a.2
      simp only [outA, List.length_append, List.length_cons, List.length_nil]; omega
    have go : ∀ (m i : Nat) (h' : H), al.length - i < m → i ≤ al.length → But h1 h' none → F44_27 pw (mkX Tryz.prog) (Ok Tryz.prog (n + 9)) (fun v h => Bd h → K v h) m (.p r 0) (.s ([60, 117, 58] ++ act ++ ([82, 101, 115, 112, 111, 110, 115, 101, 32, 120, 109, 108, 110, 115, 58, 117, 61, 34, 117, 114, 110, 58, 115, 99, 104, 101, 109, 97, 115, 45, 117, 112, 110, 112, 45, 111, 114, 103, 58, 115, 101, 114, 118, 105, 99, 101, 58, 87, 65, 78, 73, 80, 67, 111, 110, 110, 101, 99, 116, 105, 111, 110, 58, 49, 34, 62] : Bs) ++ outS (al.take i))) lv (.i .i64 al.length) (.i .i64 i) h' := by
      intro m
      induction m with
      | zero => intro i h' hm; omega
      | succ m ih =>
        intro i h' hm hi f
        rw [S44_27, lt_i]
        have hS := outS_len (b := 10000) (al.take i) fun a hm => hA a (List.mem_of_mem_take hm)
        rw [List.length_take] at hS
        have hS2 : (min i al.length) * 10000 ≤ 100 * 10000 := Nat.mul_le_mul_right _ (by omega)
        by_cases hlt' : i < al.length
        · rw [decide_eq_true (show (i : Int) < al.length by omega), cd_t]
          unfold F44_34
          refine vece_at encA_len (hv1.keep (fun q hq => Nat.lt_of_lt_of_le (hlt q hq) f1.1) f (.inr rfl)) (i := i) rfl hlt' fun bk hat => ?_
          rw [hat.all]
          have hnext : outS (al.take (i + 1)) = outS (al.take i) ++ outA al[i] := by
            unfold outS
            rw [List.take_add_one, List.getElem?_eq_getElem hlt', List.flatMap_append]
            simp
          have hi1 := hb al[i] (List.getElem_mem hlt')
          generalize al[i] = a at hat hnext hi1 ⊢
          have he := esc_len a.2
          refine al_a tt49 fun c g2 hg2 f2 c0 c1 => ?_
          refine sn_w hg2 (cs := encA a) rfl rfl rfl rfl fun g3 hg3 f3 => ?_
          simp only [fa_p, Nat.zero_add, c44]
          have q0 : ∀ κ : V → Prop, pw.l1 (.p c 0) g3 κ = κ (.s a.1) := fun κ => l1_a hg3 rfl
          have q1 : ∀ κ : V → Prop, pw.l1 (.p c 1) g3 κ = κ (.s a.2) := fun κ => l1_a hg3 rfl
          simp only [q0, q1]
          rw [ad_s (by simp; omega), ad_s (by simp; omega)]
          show Ok Tryz.prog (n + 9) 83 [.s a.2] g3 fun v h' => KeepH g3 h' ∧ _
          refine es_ok (by omega) (by omega) fun g4 f4 => ⟨fun q hq => f4.2.1 q hq (by simp), ?_⟩
          rw [ad_s (by simp; omega), ad_s (by simp; omega), ad_s (by simp; omega), ad_s (by simp; omega), ad_s (by simp; omega)]
          unfold F44_40
          rw [ad_64 (by omega), show (i : Int) + 1 = ((i + 1 : Nat) : Int) by omega]
          have es : ∀ X : Bs, X ++ outS (al.take i) ++ ([60] ++ a.1 ++ [62] ++ esc a.2 ++ [60, 47] ++ a.1 ++ [62]) = X ++ outS (al.take (i + 1)) := fun X => by
            rw [hnext]; simp [outA]
          rw [es]
          exact ih (i + 1) g4 (by omega) (by omega) (((f.trans f2).over f3 (.inr fun z ez => by cases ez; exact Nat.le_trans f.1 c0)).trans f4)
        · rw [decide_eq_false (show ¬ (i : Int) < al.length by omega), cd_f]
          rw [List.take_of_length_le (by omega)] at hS ⊢
          unfold F44_14
          simp only [fa_p, Nat.zero_add, c44]
          have g1' := f.get r1 (by simp) g1
          rw [ad_s (by simp; omega), l1_a g1' (x := .s act) rfl, ad_s (by simp; omega), ad_s (by simp; omega)]
          have := k h' (f1.trans f)
          rw [resp_body] at this
          exact fun _ => this
    have := go 100000 0 h1 (by omega) (by omega) (But.refl _ _)
    rw [List.take_zero] at this
    simpa [outS] using this
  · rw [decide_eq_false (show ¬ (code : Int) = 0 by omega), Bool.not_false, cd_t]
    rw [if_neg h0] at k
    simp only [cf_k, c44]
    refine itoa_ok (by omega) hc (p.keep f1 (by simp)) fun h2 f2 => ?_
    have hd := digs_len 2 code (by omega)
    rw [ad_s (by simp; omega), ad_s (by simp; omega)]
    have := k h2 (f1.trans f2)
    rw [fault_body hc] at this
    exact fun _ => this

/-- Write. -/
theorem write_ok {n : Nat} (hn : 11 ≤ n) {act : Bs} {av lv : V} {code : Nat} {al : List Ag} (hc : code < 1000) (ha : act.length ≤ 1000) (hl : al.length ≤ 100) (hb : ∀ a ∈ al, a.1.length ≤ 1000 ∧ a.2.length ≤ 1000) (ho : oneV av = true) (hbl : (if code = 0 then respD act al else faultD code).body.length ≤ 10000000) {h : H} {K : V → H → Prop} (p : P10 h) (hv : VecE h lv 49 2 encA al)
    (k : ∀ h', But h h' none → K (.s (docS (if code = 0 then respD act al else faultD code))) h') : Ok Tryz.prog n 23 [.a [.s act, av], lv, .i .i64 code] h K := by
  obtain ⟨n, rfl⟩ := Nat.exists_eq_add_of_le' hn
  refine Ok.bd (K23 fun hbd => ?_)
  unfold F23
  have hlt := hv.lt hbd
  refine bx_a (cs := [.s act, av]) rfl fun r h1 g1 f1 r0 r1 => ?_
  rw [ln_w (sz := 2) g1 rfl]
  simp only [cf_k, c23]
  refine inner_ok (by omega) hc ha hl hb ho (p.keep f1 (by simp)) (hv.keep hlt f1 (.inr rfl)) fun h2 f2 => ?_
  rw [ad_s (by simp; omega), ad_s (by simp; omega)]
  have := k h2 (f1.trans f2)
  rw [doc_body] at this
  exact fun _ => this
end Go.Proofs.YtbkhielalbbopaaGreatDoor.Wb
