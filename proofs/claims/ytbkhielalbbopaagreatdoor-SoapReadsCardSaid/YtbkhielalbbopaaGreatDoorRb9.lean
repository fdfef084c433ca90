/- Trees copied; Find of one name. -/
import Derived.Test.YtbkhielalbbopaaGreatDoorRb6
set_option linter.unusedSimpArgs false
set_option linter.unusedVariables false
set_option linter.unusedSectionVars false
set_option linter.unnecessarySimpa false
set_option maxRecDepth 100000
namespace Go.Proofs.YtbkhielalbbopaaGreatDoor.Wb
open Go Go.Am Go.Am.Xm
def XT.nm : XT → Bs
 | .node a _ _ => a
def XT.tx : XT → Bs
 | .node _ b _ => b
def XT.kids : XT → List XT
 | .node _ _ k => k
def kidN (nm : Bs) : List XT → Option XT
 | [] => none
 | t :: ts => if t.nm = nm then some t else kidN nm ts
def fitT : Nat → XT → Prop
 | 0, _ => False
 | k + 1, .node _ _ ks => ks.length < 50000 ∧ ∀ t ∈ ks, fitT k t
theorem enc_one {h : H} {N : Nat → Prop} {t : XT} {e : Te} (A : TrA h N t e) : (encT e).all oneV = true := by
 cases t with
 | node nn tt kk =>
  obtain ⟨_, _, es', v7, _⟩ := A
  have : oneV e.2.2 = true := by
   obtain ⟨_, ⟨h1, _⟩ | ⟨_, _, _, _, h1, _⟩⟩ := v7 <;> rw [h1] <;> rfl
  show (true && (true && (oneV e.2.2 && true))) = true
  rw [this]; rfl
theorem trS {hS h : H} (f : But hS h none) {t : XT} {e : Te} (A : TrA hS (fun z => z < hS.next) t e) : TrA h (fun z => z < h.next) t e :=
 A.keep ⟨f.1, fun q hq _ => f.2.1 q hq (by simp)⟩ fun q hq _ => Nat.lt_of_lt_of_le hq f.1
theorem trSS {hS h : H} (f : But hS h none) {t : XT} {e : Te} (A : TrA hS (fun z => z < hS.next) t e) : TrA h (fun z => z < hS.next) t e :=
 A.keep ⟨f.1, fun q hq _ => f.2.1 q hq (by simp)⟩ fun q hq _ => hq
structure Cpl (hS h : H) (q r : Nat) (e : Te) (kv : V) (ks : List XT) : Prop where
 f : But hS h none
 tq : Var3 hS h q (encT e)
 rq : ∃ cs, Var3 hS h r cs
 ne : q ≠ r
 k : ∃ es, VecE h kv 63 3 encT es ∧ (∀ z, vblk kv = some z → hS.next ≤ z ∧ z < h.next ∧ z ≠ q ∧ z ≠ r) ∧ TrsA h (fun z => hS.next ≤ z ∧ z ≠ q ∧ z ≠ r ∧ vblk kv ≠ some z) ks es
set_option maxHeartbeats 4000000 in
theorem cpy_ok : ∀ (k : Nat) (t : XT), fitT k t → ∀ {n : Nat}, k ≤ n → ∀ {e : Te} {h : H} {K : V → H → Prop}, TrA h (fun z => z < h.next) t e → (∀ h' e', But h h' none → TrA h' (fun z => h.next ≤ z) t e' → K (.a (encT e')) h') → Ok Tryz.prog n 45 [.a (encT e)] h K
 | 0, _, hf, _, _, _, _, _, _, _ => hf.elim
 | k + 1, .node a b ks, hf, n, hn, e, hS, K, A, kk => by
  obtain ⟨n, rfl⟩ := Nat.exists_eq_add_of_le' (show 1 ≤ n by omega)
  refine Ok.bd (K45 fun hbd => ?_)
  unfold F45
  have one := enc_one A
  obtain ⟨a1, a2, es, a3, a4, a5⟩ := A
  obtain ⟨hk0, hk1⟩ := hf
  refine bx_a (cs := encT e) rfl fun q h1 g1 f1 q0 q1 => ?_
  refine al_a tt63 fun r h2 g2 f2 r0 r1 => ?_
  have C0 : Cpl hS h2 q r e .ns [] := ⟨f1.trans f2, (⟨g1, rfl, q0, q1⟩ : Var3 hS h1 q (encT e)).keep0 f2, ⟨_, g2, rfl, Nat.le_trans f1.1 r0, r1⟩, by omega, [], ⟨rfl, .inl ⟨rfl, rfl⟩⟩, (fun z hz => by cases hz), rfl⟩
  have v3 : ∀ {h' : H}, But hS h' none → VecE h' e.2.2 63 3 encT es := fun f => a3.keep (fun z hz => (a4 z hz).2) f (.inr rfl)
  simp only [fa_p, Nat.zero_add]
  rw [l1_a C0.tq.g (x := e.2.2) rfl, vece_len tt61 rfl (v3 C0.f)]
  have hes : es.length < 50000 := by rw [a5.len]; exact hk0
  have go : ∀ (m : Nat) (pre rest : List Te) (ks1 ks2 : List XT) (kv : V) (h : H), rest.length < m → es = pre ++ rest → ks = ks1 ++ ks2 → TrsA hS (fun z => z < hS.next) ks2 rest → Cpl hS h q r e kv ks1 →
    F45_19 pw (mkX Tryz.prog) (Ok Tryz.prog n) (fun v h => Bd h → K v h) m (.p q 0) (.p r 0) kv e.2.2 (.i .i64 es.length) (.i .i64 pre.length) h := by
   intro m
   induction m with
   | zero => intro pre rest ks1 ks2 kv h hm; omega
   | succ m ih =>
    intro pre rest ks1 ks2 kv h hm he hks hT C
    rw [S45_19, lt_i]
    match ks2, rest, hT with
    | [], rest, hT =>
     have hr : rest = [] := hT
     subst hr
     have hlen : es.length = pre.length := by rw [he]; simp
     rw [decide_eq_false (show ¬ (pre.length : Int) < es.length by omega), cd_f]
     unfold F45_5
     simp only [fa_p, Nat.zero_add]
     obtain ⟨es', c1, c2, c3⟩ := C.k
     have onek : oneV kv = true := by
      obtain ⟨_, ⟨h1, _⟩ | ⟨_, _, _, _, h1, _⟩⟩ := c1 <;> rw [h1] <;> rfl
     refine s1_a C.tq.g (by simp [encT]) onek fun h3 g3 f3 => ?_
     have g3 : h3.mem.get q = some (.c (encT (e.1, e.2.1, kv)) 63 true) := g3
     rw [ln_w (sz := 3) g3 rfl]
     obtain ⟨cs, u⟩ := C.rq
     have u3 := u.keep f3 C.ne.symm
     have one3 : (encT (e.1, e.2.1, kv)).all oneV = true := by
      show (true && (true && (oneV kv && true))) = true
      rw [onek]; rfl
     refine sn_w u3.g (cs := encT (e.1, e.2.1, kv)) rfl rfl u3.l one3 fun h4 g4 f4 => ?_
     rw [ln_w (sz := 3) g4 rfl]
     have f34 : But hS h4 none := (C.f.over f3 (.inr fun z ez => by cases ez; exact C.tq.q0)).over f4 (.inr fun z ez => by cases ez; exact u.q0)
     have hv : VecE h4 kv 63 3 encT es' := (c1.keep (fun z hz => (c2 z hz).2.1) f3 (.inl fun e => by cases hz : vblk kv with | none => rw [hz] at e; cases e | some z => rw [hz] at e; cases e; exact (c2 q hz).2.2.1 rfl)).keep (fun z hz => Nat.lt_of_lt_of_le (c2 z hz).2.1 f3.1) f4 (.inl fun e => by cases hz : vblk kv with | none => rw [hz] at e; cases e | some z => rw [hz] at e; cases e; exact (c2 r hz).2.2.2 rfl)
     rw [List.append_nil] at hks
     subst hks
     refine fun _ => kk h4 (e.1, e.2.1, kv) f34 ⟨a1, a2, es', hv, fun z hz => ⟨(c2 z hz).1, Nat.lt_of_lt_of_le (c2 z hz).2.1 (Nat.le_trans f3.1 f4.1)⟩, c3.keep ⟨Nat.le_trans f3.1 f4.1, fun z hz hN => ?_⟩ fun z _ hN => hN.1⟩
     rw [f4.2.1 z (Nat.lt_of_lt_of_le hz f3.1) (fun e => hN.2.2.1 (Option.some.inj e)), f3.2.1 z hz (fun e => hN.2.1 (Option.some.inj e))]
    | t1 :: ts, rest, ⟨e1, rest', hr, A1, As⟩ =>
     subst hr
     have hlen : es.length = pre.length + rest'.length + 1 := by rw [he]; simp; omega
     rw [decide_eq_true (show (pre.length : Int) < es.length by omega), cd_t]
     unfold F45_27
     have hget : es[pre.length]'(by omega) = e1 := by
      simp only [he]
      rw [List.getElem_append_right (Nat.le_refl _)]
      simp
     refine vece_at encT_len (v3 C.f) (i := pre.length) rfl (by omega) fun bk hat => ?_
     rw [hget] at hat
     rw [hat.all]
     refine al_a tt63 fun c h3 g3 f3 c0 c1 => ?_
     refine sn_w g3 (cs := encT e1) rfl rfl rfl (enc_one A1) fun h4 g4 f4 => ?_
     have f34 : But h h4 none := f3.over f4 (.inr fun y ey => by cases ey; exact c0)
     rw [ln_w (sz := 3) g4 rfl]
     have hft : fitT k t1 := hk1 t1 (by rw [hks]; simp)
     simp only [cf_k]
     refine cpy_ok k t1 hft (by omega) (trS (C.f.trans f34) A1) fun h5 e5 f5 A5 => ?_
     obtain ⟨es', d1, d2, d3⟩ := C.k
     have f35 : But h h5 none := f34.trans f5
     refine bs_a (cs := encT e5) (l := [(0 * 3, .a (encT e5))]) tt61 rfl tt63 (by decide) rfl rfl fun q6 h6 g6 f6 _ _ => ?_
     have f36 : But h h6 none := f35.trans f6
     have c62 : VecE h6 kv 63 3 encT es' := d1.keep (fun z hz => (d2 z hz).2.1) f36 (.inr rfl)
     have el' : es'.length = ks1.length := d3.len
     have elt : ks1.length < 50000 := by have := congrArg List.length hks; rw [List.length_append] at this; omega
     refine ap_vec (cs := encT e5) (m := 1) tt61 rfl tt63 tt61 (by intro k e; cases e) rfl ?_ c62 rfl (enc_one A5) (by unfold most; simp only; omega) (by unfold most; omega) fun v7 h7 hv7 f7 hq7 => ?_
     ·simp only [fcells, g6]
      rfl
     have hv7 : VecE h7 v7 63 3 encT (es' ++ [e5]) := by
      unfold VecE
      rw [encs_app, encs_one, List.length_append]
      exact hv7
     unfold F45_34
     rw [ad_64 (by omega), show (pre.length : Int) + 1 = ((pre ++ [e1]).length : Nat) by simp]
     have fk : ∀ z, vblk kv = some z → hS.next ≤ z := fun z hz => (d2 z hz).1
     have n34 := f34.1
     have n45 := f5.1
     have n56 := f6.1
     have n67 := f7.1
     have nS := C.f.1
     have hq0 := C.tq.q0
     have hq1 := C.tq.q1
     obtain ⟨csr, u⟩ := C.rq
     have hr1 := u.q1
     have tq6 := C.tq.keep0 f36
     have u6 := u.keep0 f36
     have kq : vblk kv ≠ some q := fun e => (d2 q e).2.2.1 rfl
     have kr : vblk kv ≠ some r := fun e => (d2 r e).2.2.2 rfl
     have C7 : Cpl hS h7 q r e v7 (ks1 ++ [t1]) := by
      refine ⟨(C.f.trans f36).over f7 (.inr fk), ⟨f7.get tq6.q1 (fun e => kq e.symm) tq6.g, tq6.l, tq6.q0, by have := tq6.q1; omega⟩, ⟨csr, f7.get u6.q1 (fun e => kr e.symm) u6.g, u6.l, u6.q0, by have := u6.q1; omega⟩, C.ne, es' ++ [e5], hv7, fun z hz => ?_, (((d3.keep (M := fun z => hS.next ≤ z ∧ z ≠ q ∧ z ≠ r ∧ vblk v7 ≠ some z) ⟨by omega, fun z hz hN => ?_⟩ fun z hz hN => ⟨hN.1, hN.2.1, hN.2.2.1, fun ez => ?_⟩)).app (A5.keep ⟨by omega, fun z hz hN => ?_⟩ fun z hz hN => ⟨by omega, by omega, by omega, fun ez => ?_⟩))⟩
      ·rcases hq7 with e7 | ⟨e7, e7'⟩
       ·rw [e7] at hz
        have := d2 z hz
        exact ⟨this.1, by omega, this.2.2⟩
       ·rw [e7] at hz
        cases hz
        exact ⟨by omega, e7', by omega, by omega⟩
      ·rw [f7.2.1 z (by omega) (fun e => hN.2.2.2 e.symm), f36.2.1 z hz (by simp)]
      ·rcases hq7 with e7 | ⟨e7, e7'⟩
       ·rw [e7] at ez
        exact hN.2.2.2 ez
       ·rw [e7] at ez
        cases ez
        omega
      ·rw [f7.2.1 z (by omega) (fun e => by have := (d2 z e.symm).2.1; omega), f6.2.1 z hz (by simp)]
      ·rcases hq7 with e7 | ⟨e7, e7'⟩
       ·rw [e7] at ez
        have := (d2 z ez).2.1
        omega
       ·rw [e7] at ez
        cases ez
        omega
     exact ih (pre ++ [e1]) rest' (ks1 ++ [t1]) ts v7 h7 (by simp only [List.length_cons] at hm; omega) (by rw [he]; simp) (by rw [hks]; simp) As C7
  exact go 100000 [] es [] ks .ns h2 (by omega) rfl rfl a5 C0
structure Fnd (hS h : H) (q r : Nat) (e : Te) : Prop where
 f : But hS h none
 tq : Var3 hS h q (encT e)
 rq : ∃ cs, Var3 hS h r cs
 ne : q ≠ r
theorem Fnd.keep {hS h h' : H} {q r : Nat} {e : Te} (F : Fnd hS h q r e) (f : But h h' none) : Fnd hS h' q r e := by
 obtain ⟨f0, t, ⟨cs, u⟩, ne⟩ := F
 exact ⟨f0.trans f, t.keep0 f, ⟨cs, u.keep0 f⟩, ne⟩
theorem Fnd.keep1 {hS h h' : H} {q r z : Nat} {e : Te} (F : Fnd hS h q r e) (f : But h h' (some z)) (h0 : hS.next ≤ z) (h1 : q ≠ z) (h2 : r ≠ z) : Fnd hS h' q r e := by
 obtain ⟨f0, t, ⟨cs, u⟩, ne⟩ := F
 exact ⟨f0.over f (.inr fun y ey => by cases ey; exact h0), t.keep f h1, ⟨cs, u.keep f h2⟩, ne⟩
set_option maxHeartbeats 4000000 in
theorem find1_ok {n k : Nat} (hn : k + 1 ≤ n) {hS : H} {t : XT} {e : Te} {nm : Bs} {rn : Nat} {K : V → H → Prop} (A : TrA hS (fun z => z < hS.next) t e) (hft : fitT (k + 1) t)
  (hg : hS.mem.get rn = some (.c [.s nm] 9 true))
  (k1 : ∀ u h' e', kidN nm t.kids = some u → But hS h' none → TrA h' (fun z => hS.next ≤ z) u e' → K (.t [.a (encT e'), .b true]) h')
  (k0 : ∀ h', kidN nm t.kids = none → But hS h' none → K (.t [.a (encT ([], [], .ns)), .b false]) h') : Ok Tryz.prog n 24 [.a (encT e), .sl rn 0 1 1 false] hS K := by
 obtain ⟨n, rfl⟩ := Nat.exists_eq_add_of_le' (show 1 ≤ n by omega)
 refine Ok.bd (K24 fun hbd => ?_)
 have hrn := hbd _ _ hg
 unfold F24
 refine bx_a (cs := encT e) rfl fun q h1 g1 f1 q0 q1 => ?_
 refine al_a tt63 fun r h2 g2 f2 r0 r1 => ?_
 have T2 : Fnd hS h2 q r e := ⟨f1.trans f2, (⟨g1, rfl, q0, q1⟩ : Var3 hS h1 q (encT e)).keep0 f2, ⟨_, g2, rfl, Nat.le_trans f1.1 r0, r1⟩, by omega⟩
 rw [ls_sl tt59 rfl, show (100000 : Nat) = 99999 + 1 from rfl, S24_17, lt_i]
 rw [decide_eq_true (show (0 : Int) < ((1 : Nat) : Int) by decide), cd_t]
 unfold F24_24
 rw [is_sl1 (by decide), Nat.zero_add, show (0 : Int).toNat = 0 from rfl]
 have gn := T2.f.get hrn (by simp) hg
 rw [l1_a (x := .s nm) gn rfl]
 simp only [fa_p, Nat.zero_add]
 rw [l1_a T2.tq.g (x := e.2.2) rfl]
 cases t with
 | node ta tb tk =>
  obtain ⟨a1, a2, es, a3, a4, a5⟩ := A
  obtain ⟨hk0, hk1⟩ := hft
  have hes : es.length < 50000 := by rw [a5.len]; exact hk0
  have v3 : ∀ {h' : H}, But hS h' none → VecE h' e.2.2 63 3 encT es := fun f => a3.keep (fun z hz => (a4 z hz).2) f (.inr rfl)
  rw [vece_len tt61 rfl (v3 T2.f)]
  have inner : ∀ (m' : Nat) (pre rest : List Te) (ks : List XT) (h : H), rest.length < m' → es = pre ++ rest → TrsA hS (fun z => z < hS.next) ks rest → (∀ u ∈ ks, fitT k u) → kidN nm ks = kidN nm tk → Fnd hS h q r e →
    F24_59 pw (mkX Tryz.prog) (Ok Tryz.prog n) (fun v h => Bd h → K v h) (F24_17 pw (mkX Tryz.prog) (Ok Tryz.prog n) (fun v h => Bd h → K v h) 99999) m' (.p q 0) (.p r 0) (.s nm) (.b false) (.sl rn 0 1 1 false) (.i .i64 (1 : Nat)) (.i .i64 0) e.2.2 (.i .i64 es.length) (.i .i64 pre.length) h := by
   intro m'
   induction m' with
   | zero => intro pre rest ks h hm; omega
   | succ m' ih' =>
    intro pre rest ks h hm' he hks hfk hkn T
    rw [S24_59, lt_i]
    match ks, rest, hks with
    | [], rest, hks =>
     have hr : rest = [] := hks
     subst hr
     have hlen : es.length = pre.length := by rw [he]; simp
     rw [decide_eq_false (show ¬ (pre.length : Int) < es.length by omega), cd_f]
     unfold F24_42
     simp only [nt_b, Bool.not_false, cd_t]
     refine bl_a (v := .a [.s [], .s [], .ns]) ?_ ?_
     ·unfold blW
      rw [ti_some _ tt63]
      rfl
     obtain ⟨csr, u⟩ := T.rq
     refine sn_w u.g (cs := [.s [], .s [], .ns]) rfl rfl u.l rfl fun h1 g1 f1 => ?_
     rw [ln_w (sz := 3) g1 rfl]
     exact fun _ => k0 h1 (by show kidN nm tk = none; rw [← hkn]; rfl) (T.f.over f1 (.inr fun z ez => by cases ez; exact u.q0))
    | t1 :: ts, rest, ⟨e1, rest', hr, A1, As⟩ =>
     subst hr
     have hlen : es.length = pre.length + rest'.length + 1 := by rw [he]; simp; omega
     rw [decide_eq_true (show (pre.length : Int) < es.length by omega), cd_t]
     unfold F24_71
     have hget : es[pre.length]'(by omega) = e1 := by
      simp only [he]
      rw [List.getElem_append_right (Nat.le_refl _)]
      simp
     refine vece_at encT_len (v3 T.f) (i := pre.length) rfl (by omega) fun bk hat => ?_
     rw [hget] at hat
     rw [hat.all]
     refine al_a tt63 fun c h3 g3 f3 c0 c1 => ?_
     have T3 := T.keep f3
     have cS : hS.next ≤ c := Nat.le_trans T.f.1 c0
     have cq : q ≠ c := by have := T.tq.q1; omega
     obtain ⟨csr, u⟩ := T.rq
     have cr : r ≠ c := by have := u.q1; omega
     refine sn_w g3 (cs := encT e1) rfl rfl rfl (enc_one A1) fun h4 g4 f4 => ?_
     have T4 := T3.keep1 f4 cS cq cr
     simp only [fa_p, Nat.zero_add]
     rw [l1_a g4 (x := .s e1.1) rfl, eq_s]
     have hnm : e1.1 = t1.nm := by
      cases t1 with
      | node _ _ _ => exact A1.1
     rw [kidN] at hkn
     by_cases heq : t1.nm = nm
     ·rw [if_pos heq] at hkn
      rw [hnm, heq, beq_self_eq_true, cd_t, ln_w (sz := 3) g4 rfl]
      refine sn_w T4.tq.g (cs := encT e1) rfl rfl T4.tq.l (enc_one A1) fun h5 g5 f5 => ?_
      unfold F24_42
      simp only [nt_b, Bool.not_true, cd_f]
      unfold F24_30
      rw [ad_64 (by decide), show (99999 : Nat) = 99998 + 1 from rfl, S24_17, lt_i, decide_eq_false (by decide), cd_f]
      obtain ⟨csr4, u4⟩ := T4.rq
      have T5 : Fnd hS h5 q r e1 := ⟨T4.f.over f5 (.inr fun z ez => by cases ez; exact T4.tq.q0), ⟨g5, rfl, T4.tq.q0, Nat.lt_of_lt_of_le T4.tq.q1 f5.1⟩, ⟨csr4, u4.keep f5 T4.ne.symm⟩, T4.ne⟩
      unfold F24_6
      rw [ln_w (sz := 3) T5.tq.g rfl]
      simp only [cf_k]
      refine cpy_ok k t1 (hfk t1 (List.mem_cons_self ..)) (by omega) (trS T5.f A1) fun h6 e6 f6 A6 => ?_
      have T6 := T5.keep f6
      obtain ⟨csr6, u6⟩ := T6.rq
      refine sn_w u6.g (cs := encT e6) rfl rfl u6.l (enc_one A6) fun h7 g7 f7 => ?_
      rw [ln_w (sz := 3) g7 rfl]
      have nS := T5.f.1
      have hr5 : r < h5.next := by have := T5.rq; obtain ⟨_, w⟩ := this; exact w.q1
      exact fun _ => k1 t1 h7 e6 hkn.symm (T6.f.over f7 (.inr fun z ez => by cases ez; exact u6.q0)) (A6.keep ⟨f7.1, fun z hz hN => f7.2.1 z hz fun e => by have := Option.some.inj e; omega⟩ fun z _ hN => by omega)
     ·rw [if_neg heq] at hkn
      rw [show (e1.1 == nm) = false by rw [hnm]; simpa using heq, cd_f]
      unfold F24_82
      rw [ad_64 (by omega), show (pre.length : Int) + 1 = ((pre ++ [e1]).length : Nat) by simp]
      exact ih' (pre ++ [e1]) rest' ts h4 (by simp only [List.length_cons] at hm'; omega) (by rw [he]; simp) As (fun u hu => hfk u (List.mem_cons_of_mem _ hu)) hkn T4
  exact inner 100000 [] es tk h2 (by omega) rfl a5 hk1 rfl T2
theorem remP_ex (p : PS) : ∃ b q, remP p = some (b, q) := by
 unfold remP
 split
 ·split
  ·exact ⟨_, _, rfl⟩
  ·exact ⟨_, _, rfl⟩
 ·exact ⟨_, _, rfl⟩
theorem ahL_ex : ∀ (m : Nat) (o : Bool) (p : PS), p.1.length + 2 ≤ m → ∃ q, ahL m o p = some q
 | 0, _, _, h => by omega
 | m + 1, o, p, h => by
  rw [ahL]
  split
  ·exact ⟨_, rfl⟩
  split
  ·exact ahL_ex m o (blP p) (by omega)
  ·have lb := blP_le p
   obtain ⟨b, q, hr⟩ := remP_ex (blP p)
   rw [hr]
   cases b with
   | true =>
    have := remP_lt hr
    exact ahL_ex m o q (by omega)
   | false =>
    have := remP_false hr
    subst this
    simp only
    split
    ·rename_i hc
     have h2 := has_len (tkB_true hc.2).1
     simp only [List.length_cons, List.length_nil] at h2
     split
     ·rename_i w e
      have := cut2_len (a := w.1) (b := w.2) e
      rw [List.length_drop] at this
      exact ahL_ex m true (w.2, false) (by simp only; omega)
     ·exact ahL_ex m true _ (by simp only [List.length_drop]; omega)
    ·exact ⟨_, rfl⟩
theorem trL_ex : ∀ (m : Nat) (p : PS), p.1.length + 2 ≤ m → ∃ q, trL m p = some q
 | 0, _, h => by omega
 | m + 1, p, h => by
  rw [trL]
  split
  ·exact ⟨_, rfl⟩
  split
  ·exact trL_ex m (blP p) (by omega)
  ·have lb := blP_le p
   obtain ⟨b, q, hr⟩ := remP_ex (blP p)
   rw [hr]
   cases b with
   | true =>
    have := remP_lt hr
    exact trL_ex m q (by omega)
   | false => exact ⟨_, rfl⟩
theorem treeL_ex {rc : PS → Int → Option (XT × PS × Int)} {nm : Bs} {L : Nat} (hrl : ∀ {p d t q e}, rc p d = some (t, q, e) → q.1.length ≤ p.1.length) (hrb : ∀ {p d t q e}, rc p d = some (t, q, e) → p.2 = true → q.2 = true)
  (hrc : ∀ p d, (p.2 = true ∨ p.1.length < L) → ∃ t q e, rc p d = some (t, q, e)) :
  ∀ (m : Nat) (tx : Bs) (ks : List XT) (p : PS) (d : Int), p.1.length + 2 ≤ m → p.1.length ≤ L → ∃ o q e, treeL rc nm m tx ks p d = some (o, q, e)
 | 0, _, _, _, _, h, _ => by omega
 | m + 1, tx, ks, p, d, h, hL => by
  rw [treeL]
  split
  ·exact ⟨_, _, _, rfl⟩
  split
  ·exact ⟨_, _, _, rfl⟩
  ·rename_i hd tl hc
   have hcl := cut1_len hc
   obtain ⟨b, q, hr⟩ := remP_ex (p.1.drop hd.length, badT hd)
   rw [hr]
   cases b with
   | true =>
    have := remP_lt hr
    simp only [List.length_drop] at this
    exact treeL_ex hrl hrb hrc m _ _ q d (by omega) (by omega)
   | false =>
    have := remP_false hr
    subst this
    simp only
    split
    ·exact ⟨_, _, _, rfl⟩
    ·have hw := wtP_le [60] (p.1.drop hd.length, badT hd)
     simp only [List.length_drop] at hw
     have hdr : p.1.drop hd.length = 60 :: tl := by
      conv => lhs; rw [(cut1_some hc).1]
      rw [List.drop_left]
     cases hb : badT hd with
     | true =>
      obtain ⟨t, q, e, h1⟩ := hrc (wtP [60] (p.1.drop hd.length, true)) d (.inl (wtP_bad rfl))
      rw [h1]
      have hq := hrb h1 (wtP_bad rfl)
      obtain ⟨m, rfl⟩ := Nat.exists_eq_add_of_le' (show 1 ≤ m by omega)
      simp only
      rw [treeL, if_pos hq]
      exact ⟨_, _, _, rfl⟩
     | false =>
      have hw2 : wtP [60] (p.1.drop hd.length, false) = (tl, false) := by
       rw [hdr]
       unfold wtP hasP
       simp
      rw [hw2]
      obtain ⟨t, q, e, h1⟩ := hrc (tl, false) d (.inr (by simp only; omega))
      rw [h1]
      have := hrl h1
      simp only at this ⊢
      exact treeL_ex hrl hrb hrc m _ _ q e (by omega) (by omega)
theorem treeP_ex : ∀ (k : Nat) (dp : Int) (p : PS) (d : Int), p.1.length < 50000 → (p.2 = true ∧ 1 ≤ k ∨ p.1.length + 2 ≤ k) → ∃ t q e, treeP k dp p d = some (t, q, e)
 | 0, _, _, _, _, h => by omega
 | k + 1, dp, p, d, h5, h => by
  rw [treeP]
  split
  ·exact ⟨_, _, _, rfl⟩
  ·rename_i ho
   have hnb : p.2 = false := by
    cases hx : p.2 with
    | false => rfl
    | true =>
     have : openP p = (true, nmP p) := opL_bad (nmP_bad hx)
     rw [this] at ho
     exact absurd rfl ho
   have hk : p.1.length + 2 ≤ k + 1 := by
    rcases h with h | h
    ·rw [hnb] at h; cases h.1
    ·exact h
   have hol := openP_le p
   obtain ⟨o, q, e, h1⟩ := treeL_ex (nm := nameS p.1) (L := p.1.length) (rc := fun q e => treeP k (dp + 1) q e) (fun h => treeP_le k h) (fun h hb => treeP_bad h hb) (fun p' d' hp => by
    by_cases hb : p'.2 = true
    ·have : openP p' = (true, nmP p') := opL_bad (nmP_bad hb)
     obtain ⟨k, rfl⟩ := Nat.exists_eq_add_of_le' (show 1 ≤ k by omega)
     exact ⟨_, _, _, by rw [treeP, this]; rfl⟩
    ·rcases hp with hp | hp
     ·exact absurd hp hb
     ·exact treeP_ex k (dp + 1) p' d' (by omega) (.inr (by omega))) 100000 [] [] (openP p).2 (max d dp) (by omega) hol
   rw [h1]
   obtain ⟨tx, ks⟩ := o
   exact ⟨_, _, _, rfl⟩
theorem treeL_fit {rc : PS → Int → Option (XT × PS × Int)} {nm : Bs} {L k : Nat} (hrl : ∀ {p d t q e}, rc p d = some (t, q, e) → q.1.length ≤ p.1.length) (hrb : ∀ {p d t q e}, rc p d = some (t, q, e) → p.2 = true → q.2 = true)
  (hrc : ∀ {p d t q e}, rc p d = some (t, q, e) → p.1.length ≤ L → fitT k t) :
  ∀ (m : Nat) {tx : Bs} {ks : List XT} {p : PS} {d : Int} {tx' : Bs} {ks' : List XT} {q : PS} {e : Int}, treeL rc nm m tx ks p d = some ((tx', ks'), q, e) → p.1.length ≤ L → (∀ u ∈ ks, fitT k u) → (∀ u ∈ ks', fitT k u) ∧ ks'.length ≤ ks.length + p.1.length + 1
 | 0, _, _, _, _, _, _, _, _, h, _, _ => by cases h
 | m + 1, tx, ks, p, d, tx', ks', q, e, h, hL, hk => by
  rw [treeL] at h
  split at h
  ·cases h; exact ⟨hk, by omega⟩
  split at h
  ·cases h; exact ⟨hk, by omega⟩
  ·rename_i hd tl hc
   have hcl := cut1_len hc
   split at h
   ·cases h
   ·rename_i p3 hr
    have := remP_lt hr
    simp only [List.length_drop] at this
    obtain ⟨a, b⟩ := treeL_fit hrl hrb hrc m h (by omega) hk
    exact ⟨a, by omega⟩
   ·rename_i p3 hr
    have := remP_false hr
    subst this
    split at h
    ·cases h; exact ⟨hk, by omega⟩
    ·split at h
     ·cases h
     ·rename_i t p5 d5 h1
      have hw := wtP_le [60] (p.1.drop hd.length, badT hd)
      simp only [List.length_drop] at hw
      have hft := hrc h1 (by omega)
      have hk2 : ∀ u ∈ ks ++ [t], fitT k u := fun u hu => by
       rcases List.mem_append.1 hu with hu | hu
       ·exact hk u hu
       ·rw [List.mem_singleton] at hu
        rw [hu]; exact hft
      have hl5 := hrl h1
      cases hb : badT hd with
      | true =>
       rw [hb] at h1
       have hq := hrb h1 (wtP_bad rfl)
       cases m with
       | zero => cases h
       | succ m =>
        rw [treeL, if_pos hq] at h
        cases h
        exact ⟨hk2, by rw [List.length_append, List.length_singleton]; omega⟩
      | false =>
       have hdr : p.1.drop hd.length = 60 :: tl := by
        conv => lhs; rw [(cut1_some hc).1]
        rw [List.drop_left]
       have hw2 : wtP [60] (p.1.drop hd.length, false) = (tl, false) := by
        rw [hdr]
        unfold wtP hasP
        simp
       rw [hb, hw2] at hl5
       simp only at hl5
       obtain ⟨a, b⟩ := treeL_fit hrl hrb hrc m h (by omega) hk2
       rw [List.length_append, List.length_singleton] at b
       exact ⟨a, by omega⟩
theorem treeP_fit : ∀ (k : Nat) {dp : Int} {p : PS} {d : Int} {t : XT} {q : PS} {e : Int}, treeP k dp p d = some (t, q, e) → p.1.length ≤ 40000 → fitT k t
 | 0, _, _, _, _, _, _, h, _ => by cases h
 | k + 1, dp, p, d, t, q, e, h, hp => by
  have hol := openP_le p
  rw [treeP] at h
  split at h
  ·cases h
   exact ⟨by simp, fun _ hu => by cases hu⟩
  ·split at h
   ·cases h
   ·rename_i tx ks p2 d2 h1
    cases h
    obtain ⟨a, b⟩ := treeL_fit (L := 40000) (fun h => treeP_le k h) (fun h hb => treeP_bad h hb) (fun h hl => treeP_fit k h hl) 100000 h1 (by omega) (fun _ hu => by cases hu)
    exact ⟨by rw [List.length_nil] at b; omega, a⟩
theorem fitT_zero {k : Nat} (h : 1 ≤ k) : fitT k XT0 := by
 obtain ⟨k, rfl⟩ := Nat.exists_eq_add_of_le' h
 exact ⟨by simp, fun _ hu => by cases hu⟩
theorem endP_fit {k : Nat} {t : XT} {p : PS} {d : Int} (hk : 1 ≤ k) (h : fitT k t) : fitT k (endP t p d).1 := by
 unfold endP
 split
 ·exact fitT_zero hk
 split
 ·exact fitT_zero hk
 ·exact h
theorem parseP_ex {s : Bs} (hs : s.length ≤ 8192) : ∃ t c, parseP (s.length + 3) s = some (t, c) ∧ fitT (s.length + 3) t := by
 unfold parseP
 obtain ⟨p1, ha⟩ := ahL_ex 100000 false (s, !clnB s) (by simp only; omega)
 have hal := ahL_le _ ha
 simp only at hal
 rw [ha]
 have hw := wtP_le [60] p1
 simp only
 split
 ·exact ⟨_, _, rfl, endP_fit (by omega) (fitT_zero (by omega))⟩
 ·obtain ⟨t, q, e, h1⟩ := treeP_ex (s.length + 3) 1 (wtP [60] p1) 0 (by omega) (.inr (by omega))
  rw [h1]
  have hl := treeP_le _ h1
  obtain ⟨p4, h2⟩ := trL_ex 100000 q (by omega)
  simp only
  rw [h2]
  exact ⟨_, _, rfl, endP_fit (by omega) (treeP_fit _ h1 (by omega))⟩
set_option maxHeartbeats 4000000 in
theorem parse' {k n : Nat} (hn : 8 + k ≤ n) (hk : k ≤ 100000) (hk1 : 1 ≤ k) {s : Bs} (hs : s.length ≤ 8192) {t : XT} {c : Int} (e : parseP k s = some (t, c)) {h : H} {K : V → H → Prop}
  (kk : ∀ h' e t', But h h' none → TsA h' (fun q => h.next ≤ q) t' e → (c = 0 → t' = t) → K (.t [.a (encT e), .i .i64 c]) h') : Ok Tryz.prog n 26 [.s s] h K := by
 obtain ⟨n, rfl⟩ := Nat.exists_eq_add_of_le' (show 1 ≤ n by omega)
 refine Ok.bd (K26 fun hbd => ?_)
 unfold F26
 refine al_a tt77 fun v h1 g1 f1 v1 v2 => ?_
 rw [lg_s tt9 rfl, gt_i, decide_eq_false (show ¬ (8192 : Int) < (s.length : Nat) by omega), cd_f]
 unfold F26_4
 rw [cf_k]
 refine clean' (by omega) (by omega) ?_
 rw [nt_b]
 refine bl_a (v := .a [.s s, .i .i64 0, .b (!clnB s), .b false]) ?_ ?_
 ·unfold blW
  rw [ti_some _ tt109]
  rfl
 refine bx_a (cs := [.s s, .i .i64 0, .b (!clnB s), .b false]) rfl fun r h3 g3 f3 r1 r2 => ?_
 have V1 : VarS h h1 v [.s [], .s [], .ns] := ⟨g1, rfl, v1, v2⟩
 have V3 := V1.keep0 f3
 have f13 := f1.trans f3
 have P3 : Rps h3 r s (s, !clnB s) 0 := ⟨0, false, 109, g3, Nat.zero_le _, fun _ => ⟨rfl, rfl⟩⟩
 have hvr : v ≠ r := by omega
 have hrS : h.next ≤ r := Nat.le_trans f1.1 r1
 simp only [cf_k]
 refine blanks' (by omega) P3 (by omega) fun h4 P4 f4 => ?_
 have f14 := f13.over f4 (.inr fun z e => by cases e; exact hrS)
 unfold parseP at e
 cases ha : ahL 100000 false (s, !clnB s) with
 | none => rw [ha] at e; cases e
 | some p1 =>
  rw [ha] at e
  have hal := ahL_le _ ha
  simp only at e hal
  have lw := wtP_le [60] p1
  refine ah' (hS := h4) (q := p1) (d := 0) (by omega) (by omega) (fun h5 P5 f5 => ?_) 100000 100000 false (s, !clnB s) h4 ha (Nat.le_refl _) P4 (But.refl _ _)
  have r4 : r < h4.next := Nat.lt_of_lt_of_le r2 f4.1
  have f15 := f14.over f5 (.inr fun z e => by cases e; exact hrS)
  have V5 := (V3.keep f4 hvr).keep f5 hvr
  unfold F26_17
  simp only [cf_k, c26]
  refine want' (by omega) P5 (by omega) (by decide) fun h6 P6 f6 => ?_
  have f16 := f15.over f6 (.inr fun z e => by cases e; exact hrS)
  have V6 := V5.keep f6 hvr
  have r6 : r < h6.next := Nat.lt_of_lt_of_le r4 (Nat.le_trans f5.1 f6.1)
  have rest : ∀ (t0 tr : XT) (p3 p4 : PS) (d3 : Int) (h7 : H) (e7 : Te), Rps h7 r s p3 d3 → But h6 h7 (some r) → TsA h7 (fun q => h6.next ≤ q) tr e7 → trL 100000 p3 = some p4 → (p3.2 = false → p3.1.length ≤ 8192) → (p4.2 = false → tr = t0) → endP t0 p4 d3 = (t, c) →
    pw.al (mkX Tryz.prog) 77 h7 fun v24 h24 => pw.sn 3 v24 (.a (encT e7)) h24 fun h25 => F26_57 pw (mkX Tryz.prog) (Ok Tryz.prog n) (fun v h => Bd h → K v h) 100000 (.p v 0) (.p r 0) v24 h25 := by
   intro t0 tr p3 p4 d3 h7 e7 P7 f7 A7 hL hlen htr hE
   have f17 := f16.over f7 (.inr fun z e => by cases e; exact hrS)
   have V7 := V6.keep f7 hvr
   refine al_a tt77 fun tv h8 g8 f8 t1 t2 => ?_
   refine sn_w g8 (cs := encT e7) rfl rfl rfl (enc_oneS A7) fun h9 g9 f9 => ?_
   have f79 : But h7 h9 none := f8.over f9 (.inr fun y ey => by cases ey; exact t1)
   have r7 : r < h7.next := Nat.lt_of_lt_of_le r6 f7.1
   have hv6 := V6.q1
   have P9 := P7.keep f79 r7 (by simp)
   have htr' : tv ≠ r := by omega
   refine pt' (tr := tr) (tr0 := t0) (q := p4) (d := d3) (by omega) (by omega) hrS hvr htr' htr (by rw [hE]; exact kk) 100000 100000 p3 h9 hL (fun hb => by have := hlen hb; omega) (by omega) P9 (V7.keep0 f79) ⟨g9, rfl, Nat.le_trans f17.1 t1, Nat.lt_of_lt_of_le t2 f9.1⟩ (A7.keep ⟨f79.1, fun q hq _ => f79.2.1 q hq (by simp)⟩ fun q hq hN => ⟨Nat.le_trans f16.1 hN, by omega, by omega⟩) (f17.trans f79)
  cases hw : (wtP [60] p1).2 with
  | true =>
   rw [if_pos hw] at e
   have e := Option.some.inj e
   have Pb : Rps h6 r s ([], true) 0 := P6.bad hw rfl
   obtain ⟨tt, q, ee, hT⟩ := treeP_ex k 1 ([], true) 0 (by simp) (.inl ⟨rfl, hk1⟩)
   have hqb := treeP_bad hT rfl
   refine tree' k (by omega) 1 (by omega) (by omega) r s _ _ _ _ _ h6 _ (by omega) hT Pb r6 (by simp) fun h7 e7 t7 P7 f7 A7 _ => ?_
   have P7' : Rps h7 r s (wtP [60] p1) 0 := P7.bad hqb hw
   refine rest XT0 t7 (wtP [60] p1) (wtP [60] p1) 0 h7 e7 P7' f7 A7 ?_ (fun hb => by rw [hw] at hb; cases hb) (fun hb => by rw [hw] at hb; cases hb) e
   rw [show (100000 : Nat) = 99999 + 1 from rfl, trL, if_pos hw]
  | false =>
   rw [if_neg (by rw [hw]; decide)] at e
   cases hT : treeP k 1 (wtP [60] p1) 0 with
   | none => rw [hT] at e; cases e
   | some w =>
    obtain ⟨t', p3, d3⟩ := w
    rw [hT] at e
    simp only at e
    have lt := treeP_le k hT
    cases hL : trL 100000 p3 with
    | none => rw [hL] at e; cases e
    | some p4 =>
     rw [hL] at e
     have e := Option.some.inj e
     refine tree' k (by omega) 1 (by omega) (by omega) r s _ _ _ _ _ h6 _ (by omega) hT P6 r6 (by omega) fun h7 e7 t7 P7 f7 A7 ht7 => ?_
     refine rest t' t7 p3 p4 d3 h7 e7 P7 f7 A7 hL (fun _ => by omega) (fun hb => ht7 ?_) e
     cases hx : p3.2 with
     | false => rfl
     | true =>
      rw [show (100000 : Nat) = 99999 + 1 from rfl, trL, if_pos hx] at hL
      cases hL
      rw [hx] at hb; cases hb
structure FnR (hS h : H) (q r : Nat) (e : Te) : Prop where
 f : But hS h none
 tq : VarS hS h q (encT e)
 rq : ∃ cs, VarS hS h r cs
 ne : q ≠ r
theorem tsSS {hS h : H} (f : But hS h none) {t : XT} {e : Te} (A : TsA hS (fun z => z < hS.next) t e) : TsA h (fun z => z < hS.next) t e :=
 A.keep ⟨f.1, fun q hq _ => f.2.1 q hq (by simp)⟩ fun q hq _ => hq
set_option maxHeartbeats 4000000 in
theorem find' {n : Nat} (hn : 1 ≤ n) {hS : H} {t : XT} {e : Te} {nm : Bs} {rn : Nat} {K : V → H → Prop} (A : TsA hS (fun z => z < hS.next) t e) (hk : t.kids.length < 50000)
  (hg : hS.mem.get rn = some (.c [.s nm] 9 true))
  (k1 : ∀ u h' e', kidN nm t.kids = some u → But hS h' none → TsA h' (fun z => z < hS.next) u e' → K (.t [.a (encT e'), .b true]) h')
  (k0 : ∀ h', kidN nm t.kids = none → But hS h' none → K (.t [.a (encT ([], [], .ns)), .b false]) h') : Ok Tryz.prog n 27 [.a (encT e), .sl rn 0 1 1 false] hS K := by
 obtain ⟨n, rfl⟩ := Nat.exists_eq_add_of_le' hn
 refine Ok.bd (K27 fun hbd => ?_)
 have hrn := hbd _ _ hg
 unfold F27
 refine bx_a (cs := encT e) rfl fun q h1 g1 f1 q0 q1 => ?_
 refine al_a tt77 fun r h2 g2 f2 r0 r1 => ?_
 have T2 : FnR hS h2 q r e := ⟨f1.trans f2, (⟨g1, rfl, q0, q1⟩ : VarS hS h1 q (encT e)).keep0 f2, ⟨_, g2, rfl, Nat.le_trans f1.1 r0, r1⟩, by omega⟩
 rw [show (100000 : Nat) = 99998 + 1 + 1 from rfl, S27_14, ls_sl tt59 rfl, lt_i]
 rw [decide_eq_true (show (0 : Int) < ((1 : Nat) : Int) by decide), cd_t]
 unfold F27_19
 cases t with
 | node ta tb tk =>
  obtain ⟨a1, a2, es, a3, a4, a5⟩ := A
  have hes : es.length < 50000 := by rw [a5.len]; exact hk
  have v3 : ∀ {h' : H}, But hS h' none → VecE h' e.2.2 77 3 encT es := fun f => a3.keep (fun z hz => (a4 z hz).2) f (.inr rfl)
  have inner : ∀ (m' : Nat) (pre rest : List Te) (ks : List XT) (h : H), rest.length < m' → es = pre ++ rest → TssA hS (fun z => z < hS.next) ks rest → kidN nm ks = kidN nm tk → FnR hS h q r e →
    F27_46 pw (mkX Tryz.prog) (Ok Tryz.prog n) (fun v h => Bd h → K v h) (F27_14 pw (mkX Tryz.prog) (Ok Tryz.prog n) (fun v h => Bd h → K v h) (99998 + 1)) m' (.sl rn 0 1 1 false) (.p q 0) (.p r 0) (.i .i64 0) (.b false) (.i .i64 pre.length) h := by
   intro m'
   induction m' with
   | zero => intro pre rest ks h hm; omega
   | succ m' ih' =>
    intro pre rest ks h hm' he hks hkn T
    rw [S27_46]
    simp only [fa_p, Nat.zero_add]
    rw [l1_a T.tq.g (x := e.2.2) rfl, vece_len tt75 rfl (v3 T.f), lt_i]
    match ks, rest, hks with
    | [], rest, hks =>
     have hr : rest = [] := hks
     subst hr
     have hlen : es.length = pre.length := by rw [he]; simp
     rw [decide_eq_false (show ¬ (pre.length : Int) < es.length by omega)]
     simp only [g1_f, pk_f, cd_f]
     unfold F27_33
     simp only [nt_b, Bool.not_false, cd_t]
     refine bl_a (v := .a [.s [], .s [], .ns]) ?_ ?_
     ·unfold blW
      rw [ti_some _ tt77]
      rfl
     obtain ⟨csr, u⟩ := T.rq
     refine sn_w u.g (cs := [.s [], .s [], .ns]) rfl rfl u.l rfl fun h1 g1 f1 => ?_
     rw [ln_w (sz := 3) g1 rfl]
     exact fun _ => k0 h1 (by show kidN nm tk = none; rw [← hkn]; rfl) (T.f.over f1 (.inr fun z ez => by cases ez; exact u.q0))
    | t1 :: ts, rest, ⟨e1, rest', hr, A1, As⟩ =>
     subst hr
     have hlen : es.length = pre.length + rest'.length + 1 := by rw [he]; simp; omega
     rw [decide_eq_true (show (pre.length : Int) < es.length by omega)]
     simp only [g1_t, nt_b, Bool.not_false, pk_t, cd_t]
     unfold F27_53
     have hget : es[pre.length]'(by omega) = e1 := by
      simp only [he]
      rw [List.getElem_append_right (Nat.le_refl _)]
      simp
     simp only [fa_p, Nat.zero_add]
     rw [l1_a T.tq.g (x := e.2.2) rfl]
     refine vece_at encT_len (v3 T.f) (i := pre.length) rfl (by omega) fun bk hat => ?_
     rw [hget] at hat
     simp only [fa_p]
     rw [hat.get (f := 0) (x := .s e1.1) rfl]
     rw [is_sl1 (by decide), Nat.zero_add, show (0 : Int).toNat = 0 from rfl]
     have gn := T.f.get hrn (by simp) hg
     rw [l1_a (x := .s nm) gn rfl, eq_s]
     have hnm : e1.1 = t1.nm := by
      cases t1 with
      | node _ _ _ => exact A1.1
     rw [kidN] at hkn
     by_cases heq : t1.nm = nm
     ·rw [if_pos heq] at hkn
      rw [hnm, heq, beq_self_eq_true, cd_t]
      rw [l1_a T.tq.g (x := e.2.2) rfl]
      refine vece_at encT_len (v3 T.f) (i := pre.length) rfl (by omega) fun bk hat => ?_
      rw [hget] at hat
      rw [hat.all]
      refine sn_w T.tq.g (cs := encT e1) rfl rfl T.tq.l (enc_oneS A1) fun h5 g5 f5 => ?_
      unfold F27_60
      rw [ad_64 (by omega)]
      obtain ⟨csr4, u4⟩ := T.rq
      have T5 : FnR hS h5 q r e1 := ⟨T.f.over f5 (.inr fun z ez => by cases ez; exact T.tq.q0), ⟨g5, rfl, T.tq.q0, Nat.lt_of_lt_of_le T.tq.q1 f5.1⟩, ⟨csr4, u4.keep f5 T.ne.symm⟩, T.ne⟩
      obtain ⟨m', rfl⟩ := Nat.exists_eq_add_of_le' (show 1 ≤ m' by simp only [List.length_cons] at hm'; omega)
      rw [S27_46]
      simp only [fa_p, Nat.zero_add]
      rw [l1_a T5.tq.g (x := e1.2.2) rfl]
      cases t1 with
      | node tb1 tb2 tb3 =>
       have A1' := tsSS T5.f A1
       obtain ⟨b1, b2, es1, b3, b4, b5⟩ := A1'
       rw [vece_len tt75 rfl b3, lt_i]
       have fin : F27_33 pw (mkX Tryz.prog) (Ok Tryz.prog n) (fun v h => Bd h → K v h) (F27_14 pw (mkX Tryz.prog) (Ok Tryz.prog n) (fun v h => Bd h → K v h) (99998 + 1)) (.sl rn 0 1 1 false) (.p q 0) (.p r 0) (.i .i64 0) (.b true) h5 := by
        unfold F27_33
        simp only [nt_b, Bool.not_true, cd_f]
        unfold F27_24
        rw [ad_64 (by decide), S27_14, ls_sl tt59 rfl, lt_i, decide_eq_false (by decide), cd_f]
        unfold F27_6
        rw [ln_w (sz := 3) T5.tq.g rfl]
        obtain ⟨csr5, u5⟩ := T5.rq
        refine sn_w u5.g (cs := encT e1) rfl rfl u5.l (enc_oneS A1) fun h7 g7 f7 => ?_
        rw [ln_w (sz := 3) g7 rfl]
        have f57 : But hS h7 none := T5.f.over f7 (.inr fun z ez => by cases ez; exact u5.q0)
        exact fun _ => k1 _ h7 e1 hkn.symm f57 (tsSS f57 A1)
       cases hd : decide (((pre.length : Int) + 1) < (es1.length : Int)) with
       | true => simp only [g1_t, nt_b, Bool.not_true, pk_t, cd_f]; exact fin
       | false => simp only [g1_f, pk_f, cd_f]; exact fin
     ·rw [if_neg heq] at hkn
      rw [show (e1.1 == nm) = false by rw [hnm]; simpa using heq, cd_f]
      unfold F27_60
      rw [ad_64 (by omega), show (pre.length : Int) + 1 = ((pre ++ [e1]).length : Nat) by simp]
      exact ih' (pre ++ [e1]) rest' ts h (by simp only [List.length_cons] at hm'; omega) (by rw [he]; simp) As hkn T
  exact inner 100000 [] es tk h2 (by omega) rfl a5 rfl T2
end Go.Proofs.YtbkhielalbbopaaGreatDoor.Wb
