/- Find: a kid's kid by their names; a leaf copied. -/
import Derived.Test.YtbkhielalbbopaaGreatDoorZl3
import Derived.Test.YtbkhielalbbopaaGreatDoorUz0
set_option linter.unusedSimpArgs false
set_option linter.unusedVariables false
set_option linter.unusedSectionVars false
set_option linter.unnecessarySimpa false
set_option maxRecDepth 100000
namespace Go.Proofs.YtbkhielalbbopaaGreatDoor.Wb
open Go Go.Am Go.Am.Xm

def XT.nm : XT → Bs
  | .node a _ _ => a
def XT.kids : XT → List XT
  | .node _ _ k => k
def kidN (nm : Bs) : List XT → Option XT
  | [] => none
  | t :: ts => if t.nm = nm then some t else kidN nm ts
def findP : XT → List Bs → Option XT
  | t, [] => some t
  | t, n :: ns => if 50000 ≤ t.kids.length then none else match kidN n t.kids with
    | none => none
    | some k => findP k ns

theorem enc_one {h : H} {N : Nat → Prop} {t : XT} {e : Te} (A : TrA h N t e) : (encT e).all oneV = true := by
  cases t with
  | node nn tt kk =>
    obtain ⟨_, _, es', v7, _⟩ := A
    have : oneV e.2.2 = true := by
      obtain ⟨_, ⟨h1, _⟩ | ⟨_, _, _, _, h1, _⟩⟩ := v7 <;> rw [h1] <;> rfl
    show (true && (true && (oneV e.2.2 && true))) = true
    rw [this]; rfl

/-- A leaf, copied. -/
theorem cpl_ok {n : Nat} (hn : 1 ≤ n) {a b : Bs} {e : Te} {N : Nat → Prop} {h : H} {K : V → H → Prop} (A : TrA h N (.node a b []) e) (k : ∀ h', But h h' none → K (.a (encT (a, b, .ns))) h') : Ok Tryz.prog n 45 [.a (encT e)] h K := by
  obtain ⟨n, rfl⟩ := Nat.exists_eq_add_of_le' hn
  refine Ok.bd (K45 fun hbd => ?_)
  unfold F45
  have one := enc_one A
  obtain ⟨a1, a2, es, a3, a4, a5⟩ := A
  have h0 : es = [] := a5
  subst h0
  obtain ⟨x1, x2, kv⟩ := e
  simp only at a1 a2 a3
  subst a1
  subst a2
  refine bx_a (cs := encT (x1, x2, kv)) rfl fun q h1 g1 f1 q0 q1 => ?_
  refine al_a tt63 fun r h2 g2 f2 r0 r1 => ?_
  have g3 := f2.get q1 (by simp) g1
  have v2 : VecE h2 kv 63 3 encT [] := by
    rcases a3 with ⟨p1, ⟨p2, p3⟩ | ⟨r, cap, e, l, p2, p3, p4⟩⟩
    · exact ⟨p1, .inl ⟨p2, p3⟩⟩
    · refine ⟨p1, .inr ⟨r, cap, e, l, p2, ?_, p4⟩⟩
      exact (f1.trans f2).get (hbd _ _ p3) (by simp) p3
  simp only [fa_p, Nat.zero_add]
  rw [l1_a g3 rfl, vece_len tt61 rfl v2]
  rw [show (100000 : Nat) = 99999 + 1 from rfl, S45_19, lt_i, decide_eq_false (show ¬ (0 : Int) < (([] : List Te).length : Nat) by simp), cd_f]
  unfold F45_5
  simp only [fa_p, Nat.zero_add]
  refine s1_a g3 (by simp [encT]) rfl fun h3 g4 f3 => ?_
  rw [ln_w (sz := 3) g4 rfl]
  have g5 := f3.get r1 (fun e => by cases e; omega) g2
  refine sn_w g5 (cs := [.s x1, .s x2, .ns]) rfl rfl rfl rfl fun h4 g6 f4 => ?_
  rw [ln_w (sz := 3) g6 rfl]
  exact fun _ => k h4 (((f1.trans f2).over f3 (.inr fun z ez => by cases ez; exact q0)).over f4 (.inr fun z ez => by cases ez; exact Nat.le_trans f1.1 r0))

/-- What Find keeps: the tree's variable, the result's. -/
structure Fnd (hS h : H) (q r : Nat) (e : Te) : Prop where
  f : But hS h none
  tq : Var3 hS h q (encT e)
  rq : ∃ cs, Var3 hS h r cs
  ne : q ≠ r
theorem Fnd.keep {hS h h' : H} {q r : Nat} {e : Te} (F : Fnd hS h q r e) (f : But h h' none) : Fnd hS h' q r e := by
  obtain ⟨f0, t, ⟨cs, u⟩, ne⟩ := F
  exact ⟨f0.trans f, t.keep0 f, ⟨cs, u.keep0 f⟩, ne⟩
theorem Fnd.keep1 {hS h h' : H} {q r z : Nat} {e : Te} (F : Fnd hS h q r e) (f : But h h' (some z)) (h0 : hS.next ≤ z) (h1 : q ≠ z) (h2 : r ≠ z) : Fnd hS h' q r e := by
  obtain ⟨f0, t, ⟨cs, u⟩, ne⟩ := F
  exact ⟨f0.over f (.inr fun y ey => by cases ey; exact h0), t.keep f h1, ⟨cs, u.keep f h2⟩, ne⟩

theorem trS {hS h : H} (f : But hS h none) {t : XT} {e : Te} (A : TrA hS (fun z => z < hS.next) t e) : TrA h (fun z => z < hS.next) t e :=
  A.keep ⟨f.1, fun q hq _ => f.2.1 q hq (by simp)⟩ fun q _ h => h

/-- Find: where the names lead to a leaf. -/
theorem find_ok {n : Nat} (hn : 2 ≤ n) {hS : H} {t : XT} {e : Te} {nms : List Bs} {rn : Nat} {a b : Bs} {K : V → H → Prop} (A : TrA hS (fun z => z < hS.next) t e) (hl : nms.length < 1000)
    (hg : hS.mem.get rn = some (.c (nms.map V.s) 9 true)) (hf : findP t nms = some (.node a b []))
    (k : ∀ h', But hS h' none → K (.t [.a (encT (a, b, .ns)), .b true]) h') : Ok Tryz.prog n 24 [.a (encT e), .sl rn 0 nms.length nms.length false] hS K := by
  obtain ⟨n, rfl⟩ := Nat.exists_eq_add_of_le' hn
  refine Ok.bd (K24 fun hbd => ?_)
  have hrn := hbd _ _ hg
  unfold F24
  refine bx_a (cs := encT e) rfl fun q h1 g1 f1 q0 q1 => ?_
  refine al_a tt63 fun r h2 g2 f2 r0 r1 => ?_
  have T2 : Fnd hS h2 q r e := ⟨f1.trans f2, (⟨g1, rfl, q0, q1⟩ : Var3 hS h1 q (encT e)).keep0 f2, ⟨_, g2, rfl, Nat.le_trans f1.1 r0, r1⟩, by omega⟩
  rw [ls_sl tt59 rfl]
  have go : ∀ (m i : Nat) (e : Te) (t : XT) (h : H), nms.length - i < m → i ≤ nms.length → Fnd hS h q r e → TrA hS (fun z => z < hS.next) t e → findP t (nms.drop i) = some (.node a b []) →
      F24_17 pw (mkX Tryz.prog) (Ok Tryz.prog (n + 1)) (fun v h => Bd h → K v h) m (.p q 0) (.p r 0) (.sl rn 0 nms.length nms.length false) (.i .i64 nms.length) (.i .i64 i) h := by
    intro m
    induction m with
    | zero => intro i e t h hm; omega
    | succ m ih =>
      intro i e t h hm hi T A hf
      rw [S24_17, lt_i]
      by_cases hlt : i < nms.length
      · rw [decide_eq_true (show (i : Int) < nms.length by omega), cd_t]
        have hsp : nms[i]? = some (nms[i]'hlt) := List.getElem?_eq_getElem hlt
        rw [List.drop_eq_getElem_cons hlt] at hf
        generalize nms[i]'hlt = nm at hsp hf
        unfold F24_24
        rw [is_sl1 (by omega), Nat.zero_add, Int.toNat_natCast]
        have gn := T.f.get hrn (by simp) hg
        rw [l1_a (x := .s nm) gn (by rw [List.getElem?_map, hsp]; rfl)]
        simp only [fa_p, Nat.zero_add]
        rw [l1_a T.tq.g (x := e.2.2) rfl]
        cases t with
        | node ta tb tk =>
          obtain ⟨a1, a2, es, a3, a4, a5⟩ := A
          rw [findP] at hf
          have hkl : ¬ 50000 ≤ tk.length := by
            intro hc
            rw [if_pos (show 50000 ≤ (XT.node ta tb tk).kids.length from hc)] at hf
            cases hf
          rw [if_neg (show ¬ 50000 ≤ (XT.node ta tb tk).kids.length from hkl)] at hf
          have hes : es.length < 50000 := by rw [a5.len]; omega
          have v3 : ∀ {h' : H}, But hS h' none → VecE h' e.2.2 63 3 encT es := fun f => a3.keep (fun z hz => (a4 z hz).1) f (.inr rfl)
          rw [vece_len tt61 rfl (v3 T.f)]
          have inner : ∀ (m' : Nat) (pre rest : List Te) (ks : List XT) (h : H), rest.length < m' → es = pre ++ rest → TrsA hS (fun z => z < hS.next) ks rest → Fnd hS h q r e → (match kidN nm ks with | none => none | some k => findP k (nms.drop (i + 1))) = some (.node a b []) →
              F24_59 pw (mkX Tryz.prog) (Ok Tryz.prog (n + 1)) (fun v h => Bd h → K v h) (F24_17 pw (mkX Tryz.prog) (Ok Tryz.prog (n + 1)) (fun v h => Bd h → K v h) m) m' (.p q 0) (.p r 0) (.s nm) (.b false) (.sl rn 0 nms.length nms.length false) (.i .i64 nms.length) (.i .i64 i) e.2.2 (.i .i64 es.length) (.i .i64 pre.length) h := by
            intro m'
            induction m' with
            | zero => intro pre rest ks h hm; omega
            | succ m' ih' =>
              intro pre rest ks h hm' he hks T hf
              rw [S24_59, lt_i]
              match ks, rest, hks with
              | [], rest, hks => cases hf
              | t1 :: ts, rest, ⟨e1, rest', hr, A1, As⟩ =>
                subst hr
                have hlen : es.length = pre.length + rest'.length + 1 := by rw [he]; simp; omega
                rw [decide_eq_true (show (pre.length : Int) < es.length by omega), cd_t]
                unfold F24_71
                have hget : es[pre.length]'(by omega) = e1 := by
                  simp only [he]
                  rw [List.getElem_append_right (Nat.le_refl _)]
                  simp
                refine vece_at encT_len (v3 T.f) (i := pre.length) rfl (by omega) fun bk hat => ?_
                rw [hget] at hat
                rw [hat.all]
                refine al_a tt63 fun c h3 g3 f3 c0 c1 => ?_
                have T3 := T.keep f3
                have cS : hS.next ≤ c := Nat.le_trans T.f.1 c0
                have cq : q ≠ c := by have := T.tq.q1; omega
                obtain ⟨csr, u⟩ := T.rq
                have cr : r ≠ c := by have := u.q1; omega
                refine sn_w g3 (cs := encT e1) rfl rfl rfl (enc_one A1) fun h4 g4 f4 => ?_
                have T4 := T3.keep1 f4 cS cq cr
                simp only [fa_p, Nat.zero_add]
                rw [l1_a g4 (x := .s e1.1) rfl, eq_s]
                have hnm : e1.1 = t1.nm := by
                  cases t1 with
                  | node _ _ _ => exact A1.1
                rw [kidN] at hf
                by_cases heq : t1.nm = nm
                · rw [if_pos heq] at hf
                  rw [hnm, heq, beq_self_eq_true, cd_t, ln_w (sz := 3) g4 rfl]
                  refine sn_w T4.tq.g (cs := encT e1) rfl rfl T4.tq.l (enc_one A1) fun h5 g5 f5 => ?_
                  unfold F24_42
                  simp only [nt_b, Bool.not_true, cd_f]
                  unfold F24_30
                  rw [ad_64 (by omega), show (i : Int) + 1 = ((i + 1 : Nat) : Int) by omega]
                  obtain ⟨csr4, u4⟩ := T4.rq
                  have T5 : Fnd hS h5 q r e1 := ⟨T4.f.over f5 (.inr fun z ez => by cases ez; exact T4.tq.q0), ⟨g5, rfl, T4.tq.q0, Nat.lt_of_lt_of_le T4.tq.q1 f5.1⟩, ⟨csr4, u4.keep f5 T4.ne.symm⟩, T4.ne⟩
                  exact ih (i + 1) e1 t1 h5 (by omega) (by omega) T5 A1 hf
                · rw [if_neg heq] at hf
                  rw [show (e1.1 == nm) = false by rw [hnm]; simpa using heq, cd_f]
                  unfold F24_82
                  rw [ad_64 (by omega), show (pre.length : Int) + 1 = ((pre ++ [e1]).length : Nat) by simp]
                  exact ih' (pre ++ [e1]) rest' ts h4 (by simp only [List.length_cons] at hm'; omega) (by rw [he]; simp) As T4 hf
          exact inner 100000 [] es tk h (by omega) rfl a5 T hf
      · rw [decide_eq_false (show ¬ (i : Int) < nms.length by omega), cd_f]
        rw [List.drop_eq_nil_of_le (by omega)] at hf
        cases hf
        unfold F24_6
        rw [ln_w (sz := 3) T.tq.g rfl]
        simp only [cf_k]
        refine cpl_ok (by omega) (trS T.f A) fun h3 f3 => ?_
        have T3 := T.keep f3
        obtain ⟨csr, u⟩ := T3.rq
        refine sn_w u.g (cs := [.s a, .s b, .ns]) rfl rfl u.l rfl fun h4 g4 f4 => ?_
        rw [ln_w (sz := 3) g4 rfl]
        exact fun _ => k h4 (T3.f.over f4 (.inr fun z ez => by cases ez; exact u.q0))
  exact go 100000 0 e t h2 (by omega) (by omega) T2 A hf
end Go.Proofs.YtbkhielalbbopaaGreatDoor.Wb
