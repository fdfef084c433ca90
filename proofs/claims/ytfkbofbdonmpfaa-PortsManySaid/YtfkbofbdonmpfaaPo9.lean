/- So many hosts with one port of theirs have a port each: the walk. -/
import Derived.Test.YtfkbofbdonmpfaaPo8
set_option linter.unusedSimpArgs false
set_option linter.unusedVariables false
set_option linter.unusedSectionVars false
set_option linter.unnecessarySimpa false
set_option maxRecDepth 100000
namespace Go.Proofs.Ytfkbofbdonmpfaa.Wb
open Go.Am

theorem many_73 {n0 port N want : Int} {i r q : Nat} {h : H} {m : Mp} {K : V → H → Prop} {i38 : V → V → V → V → V → H → Prop} (hi : i < 256) (hq : h.mem.get q = some (.c (encM m) 30 true)) (h1 : m.o = want) (h2 : m.inn = port) (h3 : m.ad = ⟨10, 0, 0, (i : Int)⟩)
    (hk : ∀ h', Bd h' → But h h' none → i38 (.i .i64 n0) (.i .i64 port) (.p r 0) (.i .i64 N) (.i .i64 ((i + 1 : Nat) : Int)) h') :
    F3_73 pw xx (Ok Try.prog 99) K i38 (.i .i64 n0) (.i .i64 port) (.p r 0) (.i .i64 N) (.i .i64 (i : Nat)) (.p q 0) (.i .i64 0) (.i .i64 want) h := by
  have l1 : ∀ κ : V → Prop, pw.l1 (.p q (0 + 1)) h κ = κ (.i .i64 m.o) := fun κ => l1_a hq rfl
  have l6 : ∀ κ : V → Prop, pw.l1 (.p q (0 + 6)) h κ = κ (.i .i64 m.inn) := fun κ => l1_a hq rfl
  have l2 : ∀ κ : V → Prop, pw.ln 4 (.p q (0 + 2)) h κ = κ (.a (encA m.ad)) := fun κ => by rw [ln_a (sz := 4) hq (by simp [encM])]; rfl
  simp (disch := omega) only [F3_73, ws, l1, l6, l2, h1, h2, h3, dec_t, decide_true, Bool.not_true]
  refine at_ok (by omega) (by omega) fun h' hbd' hb' => ⟨fun z hz => hb'.2.1 z hz (by simp), ?_⟩
  simp (disch := omega) only [ws, nead, decide_true, Bool.not_true, F3_50]
  exact hk h' hbd' hb'

set_option maxHeartbeats 2000000 in
theorem many_ok (aw : isTrue (run Try.prog 100000 99 23 []) = true) {n port : Int} (hn : -9223372036854775808 ≤ n ∧ n ≤ 9223372036854775807) : Ok Try.prog 100 3 [.i .i64 n, .i .i64 port] ⟨16, .l⟩ (fun v _ => v = .b true) := by
  refine K3 (n := 99) fun hbd => ?_
  simp (disch := omega) only [F3, cf_k]
  refine ok_true aw fun h1 hbd1 hb1 => ?_
  simp (disch := omega) only [ws, Bool.not_true, F3_4]
  by_cases c1 : n < 1
  · simp (disch := omega) only [ws, dec_t c1]
  by_cases c2 : 128 < n
  · simp (disch := omega) only [ws, dec_f c1, dec_t c2]
  by_cases c3 : port < 1
  · simp (disch := omega) only [ws, dec_f c1, dec_f c2, dec_t c3]
  by_cases c4 : 65535 < port
  · simp (disch := omega) only [ws, dec_f c1, dec_f c2, dec_f c3, dec_t c4]
  simp (disch := omega) only [ws, dec_f c1, dec_f c2, dec_f c3, dec_f c4, F3_7]
  refine new_ok (by omega) (by omega) (by omega) fun r h2 hbd2 hb2 hr2 ht2 => ?_
  simp (disch := omega) only [ws, List.getElem?_cons_zero, List.getElem?_cons_succ, decide_true, Bool.not_true, F3_16]
  have t0 : timeP 0 0 = 0 := rfl
  obtain ⟨k, rfl⟩ : ∃ k : Nat, n = k := ⟨n.toNat, by omega⟩
  have loop : ∀ (fuel i : Nat) (N : Int) (h : H) (c : Option Nat) (es : List Mp), k < fuel + i → i ≤ k → Bd h → PT h r c 40000 128 0 es → ManyI port N i es →
      F3_38 pw xx (Ok Try.prog 99) (fun v _ => v = .b true) fuel (.i .i64 (k : Nat)) (.i .i64 port) (.p r 0) (.i .i64 N) (.i .i64 (i : Nat)) h := by
    intro fuel
    induction fuel with
    | zero => intro i N h c es a1 a2; omega
    | succ fuel ih =>
      intro i N h c es a1 a2 hbd ht I
      rw [S3_38]
      have hlen := I.len
      have n0 := I.n0
      by_cases hlt : i < k
      · simp (disch := omega) only [ws, dec_t, F3_44]
        refine at_ok (by omega) (by omega) fun h3 hbd3 hb3 => ?_
        refine bl_a (v := .a (encF (mF port i))) ?_ ?_
        · simp only [blW, ti, tt35, placesSt, encA, cellsOfV, List.getElem?_cons_zero, List.getElem?_cons_succ, fillA]; rfl
        refine make_ok (by omega) (ht.keep hbd hb3) (by omega) (by omega) (by rw [t0]; omega) fun h4 c4 es4 v4 hbd4 hb4 hc4 ht4 hm4 => ?_
        rw [t0] at ht4 hm4
        obtain ⟨I4, rfl⟩ := I.make (by omega) (by omega) hm4
        simp (disch := omega) only [ws, List.getElem?_cons_zero, List.getElem?_cons_succ]
        refine al_a tt30 fun q h5 hq5 hb5 hq1 hq2 => ?_
        refine sn_w (w := .a (encM (newE (mF port i) (wantP port N i) 60))) (cs := encM (newE (mF port i) (wantP port N i) 60)) hq5 rfl (encM_len _) rfl (encM_one _) fun h6 hq6 hb6 => ?_
        have hb46 : But h4 h6 none := hb5.over hb6 (.inr fun z e => by cases e; exact hq1)
        have nxt : F3_73 pw xx (Ok Try.prog 99) (fun v _ => v = .b true) (F3_38 pw xx (Ok Try.prog 99) (fun v _ => v = .b true) fuel) (.i .i64 (k : Nat)) (.i .i64 port) (.p r 0) (.i .i64 (nextP port N i)) (.i .i64 (i : Nat)) (.p q 0) (.i .i64 0) (.i .i64 (wantP port N i)) h6 := by
          refine many_73 (by omega) hq6 rfl rfl rfl fun h7 hbd7 hb7 => ?_
          exact ih (i + 1) (nextP port N i) h7 c4 es4 (by omega) (by omega) hbd7 (ht4.keep hbd4 (hb46.trans hb7)) I4
        by_cases d1 : 0 < i ∨ port < 40000
        · simp only [wantP, nextP, if_pos d1] at nxt
          by_cases d2 : N = port
          · by_cases d3 : 40000 ≤ port
            · rw [if_pos ⟨d2, d3⟩] at nxt
              by_cases d0 : (0 : Int) < (i : Nat)
              · simp (disch := omega) only [ws, dec_t d0, dec_t d2, dec_t d3, F3_125]
                exact nxt
              · exact absurd d1 (by omega)
            · rw [if_neg (fun h => d3 h.2)] at nxt
              by_cases d0 : (0 : Int) < (i : Nat)
              · simp (disch := omega) only [ws, dec_t d0, dec_t d2, dec_f d3, F3_125]
                exact nxt
              · simp (disch := omega) only [ws, dec_f d0, dec_t (show port < 40000 by omega), dec_t d2, dec_f d3, F3_125]
                exact nxt
          · rw [if_neg (fun h => d2 h.1)] at nxt
            by_cases d0 : (0 : Int) < (i : Nat)
            · simp (disch := omega) only [ws, dec_t d0, dec_f d2, F3_125]
              exact nxt
            · simp (disch := omega) only [ws, dec_f d0, dec_t (show port < 40000 by omega), dec_f d2, F3_125]
              exact nxt
        · simp only [wantP, nextP, if_neg d1] at nxt
          simp (disch := omega) only [ws, dec_f]
          exact nxt
      · obtain rfl : i = k := by omega
        obtain ⟨c0, c60⟩ := I.cnt
        simp (disch := omega) only [ws, dec_f, F3_21]
        refine len_ok (by omega) ht (by omega) fun h3 hbd3 hb3 ht3 => ?_
        rw [t0] at ht3 ⊢
        simp (disch := omega) only [ws, c0, dec_t, decide_true]
        refine len_ok (by omega) ht3 (by omega) fun h4 hbd4 hb4 ht4 => ?_
        have t60 : timeP 0 60 = 60 := rfl
        rw [t60]
        simp (disch := omega) only [ws, c60, dec_t, decide_true]
  exact loop 100000 0 40000 h2 none [] (by omega) (by omega) hbd2 ht2 (ManyI.nil port)
end Go.Proofs.Ytfkbofbdonmpfaa.Wb
