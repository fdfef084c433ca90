/- The reference's parser: a tree's text and kids. -/
import Derived.Test.YtbkhielalbbopaaGreatDoorZs11
import Derived.Test.YtbkhielalbbopaaGreatDoorRb4
set_option linter.unusedSimpArgs false
set_option linter.unusedVariables false
set_option linter.unusedSectionVars false
set_option linter.unnecessarySimpa false
set_option maxRecDepth 100000
namespace Go.Proofs.YtbkhielalbbopaaGreatDoor.Wb
open Go Go.Am Go.Am.Xm
theorem opL_bad {m : Nat} {p : PS} (h : p.2 = true) : opL m p = (true, p) := by
 cases m with
 | zero => rfl
 | succ m => rw [opL, if_pos h]
theorem nmP_bad {p : PS} (h : p.2 = true) : (nmP p).2 = true := by
 show (p.2 || _) = true
 rw [h]; rfl
theorem treeP_bad {k : Nat} {dp : Int} {p : PS} {d : Int} {t : XT} {q : PS} {e : Int} (h : treeP k dp p d = some (t, q, e)) (hb : p.2 = true) : q.2 = true := by
 cases k with
 | zero => cases h
 | succ k =>
  have : openP p = (true, nmP p) := opL_bad (nmP_bad hb)
  rw [treeP, this] at h
  cases h
  exact nmP_bad hb
theorem treeL_bad {rc : PS → Int → Option (XT × PS × Int)} {nm : Bs} {m : Nat} {tx : Bs} {ks : List XT} {p : PS} {d : Int} {o : Bs × List XT} {q : PS} {e : Int} (h : treeL rc nm m tx ks p d = some (o, q, e)) (hb : p.2 = true) : q.2 = true := by
 cases m with
 | zero => cases h
 | succ m =>
  rw [treeL, if_pos hb] at h
  cases h
  exact hb
theorem remP_no {p : PS} (h : tkB rmk p = false) : remP p = some (false, p) := by
 unfold remP
 rw [if_neg (by rw [h]; decide)]
theorem tkB_bad {t : Bs} {p : PS} (h : p.2 = true) : tkB t p = false := by
 unfold tkB
 rw [h, Bool.not_true, Bool.and_false]
theorem remP_false {p q : PS} (h : remP p = some (false, q)) : q = p := by
 unfold remP at h
 split at h
 ·split at h <;> cases h
 ·cases h; rfl
theorem remP_lt {p q : PS} (h : remP p = some (true, q)) : q.1.length + 4 ≤ p.1.length := by
 unfold remP at h
 split at h
 ·rename_i ht
  have h4 : 4 ≤ p.1.length := has_len (tkB_true ht).1
  split at h
  ·rename_i b e
   cases h
   have := cut2_len (a := b.1) (b := b.2) e
   have h2 := wtP_le [62] (b.2, false)
   rw [List.length_drop] at this
   simp only at h2
   omega
  ·cases h
   have h2 := wtP_le [62] (p.1.drop 4, true)
   simp only [List.length_drop] at h2
   omega
 ·cases h
theorem has60 {r l : Bs} (h : ∀ tl, l ≠ 60 :: tl) : hasP (60 :: r) l = false := by
 cases e : hasP (60 :: r) l with
 | false => rfl
 | true =>
  have := eq_of_beq e
  cases l with
  | nil => simp at this
  | cons c tl =>
   simp only [List.length_cons, List.take_succ_cons, List.cons.injEq] at this
   exact absurd (by rw [this.1]) (h tl)
theorem badT_nil : badT [] = false := by
 unfold badT
 rw [unE_nil]; rfl
theorem outT_nil : outT [] = [] := by
 unfold outT
 rw [unE_nil]; rfl
section
variable {n : Nat} {hS : H} {r tv rv : Nat} {s nm nmT : Bs} {dp : Int} {K : V → H → Prop} {q : PS} {dq : Int} {T0 : XT}
theorem rend (hb : q.2 = true) (k : ∀ h' e t', Rps h' r s q dq → But hS h' (some r) → TsA h' (fun z => hS.next ≤ z) t' e → (q.2 = false → t' = T0) → K (.a (encT e)) h')
  {m : Nat} (hm : 1 ≤ m) {tx : Bs} {ks : List XT} {p : PS} {d : Int} {h : H} (T : TrR hS h r tv rv nmT tx ks) (P : Rps h r s p d) (hp : p.2 = true) :
  F57_28 pw (mkX Tryz.prog) (Ok Tryz.prog n) (fun v h => Bd h → K v h) m (.p r 0) (.i .i64 dp) (.p rv 0) (.s nm) (.p tv 0) h := by
 obtain ⟨m, rfl⟩ := Nat.exists_eq_add_of_le' hm
 have P0 : Rps h r s q dq := P.bad hp hb
 obtain ⟨a, g, ty, hg, _, _⟩ := P
 rw [S57_28]
 simp only [nl_p, fa_p, Nat.zero_add]
 rw [l1_a hg rfl, hp, nt_b, Bool.not_true, cd_f]
 unfold F57_22
 exact T.fin P0 fun h' e P1 f1 A1 => k h' e _ P1 f1 A1 fun e => by rw [hb] at e; cases e
theorem rnil (hn : 4 ≤ n) (hl : s.length < 50000) (hb : q.2 = true) (k : ∀ h' e t', Rps h' r s q dq → But hS h' (some r) → TsA h' (fun z => hS.next ≤ z) t' e → (q.2 = false → t' = T0) → K (.a (encT e)) h')
  {m : Nat} (hm : 2 ≤ m) {tx : Bs} {ks : List XT} {d : Int} {h : H} (T : TrR hS h r tv rv nmT tx ks) (P : Rps h r s ([], false) d) :
  F57_28 pw (mkX Tryz.prog) (Ok Tryz.prog n) (fun v h => Bd h → K v h) m (.p r 0) (.i .i64 dp) (.p rv 0) (.s nm) (.p tv 0) h := by
 obtain ⟨m, rfl⟩ := Nat.exists_eq_add_of_le' (show 1 ≤ m by omega)
 have P0 := P
 obtain ⟨a, g, ty, hg, ha, hp⟩ := P
 rw [S57_28]
 simp only [nl_p, fa_p, Nat.zero_add]
 rw [l1_a hg rfl, nt_b, Bool.not_false, cd_t]
 unfold F57_34
 simp only [cf_k, c57]
 refine remark' (by omega) P0 hl (remP_no rfl) fun h1 P1 f1 => ?_
 rw [cd_f]
 refine take' (by omega) P1 hl (by decide) fun h2 P2 f2 => ?_
 rw [show tkB [60, 47] (([] : Bs), false) = false from rfl, cd_f]
 rw [tkP_not (t := [60, 47]) rfl] at P2
 refine is_ok' (by omega) P2 hl (by decide) ?_
 rw [show tkB [60] (([] : Bs), false) = false from rfl, cd_f]
 obtain ⟨a2, g2, ty2, hg2, ha2, hp2⟩ := P2
 have hd := (hp2 rfl).1
 have : s.length ≤ a2 := List.drop_eq_nil_iff.1 hd
 simp only [nl_p, fa_p, Nat.zero_add]
 rw [l1_a hg2 rfl, l1_a hg2 rfl, lg_s tt9 rfl, lt_i, decide_eq_false (show ¬ (a2 : Int) < s.length by omega), cd_f]
 refine s1_a hg2 (by simp) rfl fun h3 hg3 f3 => ?_
 exact rend (p := ([], true)) (d := d) hb k (by omega) (T.keep (f1.trans (f2.trans f3))) ⟨a2, g2, ty2, hg3, ha2, fun e => by cases e⟩ rfl
theorem cls' (hn : 3 ≤ n) (hl : s.length < 50000) {tx : Bs} {ks : List XT} {p : PS} {d : Int} {h : H} {i28 : V → V → V → V → V → H → Prop} (T : TrR hS h r tv rv nmT tx ks) (P : Rps h r s p d)
  (k : ∀ h' e, Rps h' r s (wtP [62] (blP p)) d → But hS h' (some r) → TsA h' (fun z => hS.next ≤ z) (.node nmT tx ks) e → K (.a (encT e)) h') :
  F57_46 pw (mkX Tryz.prog) (Ok Tryz.prog n) (fun v h => Bd h → K v h) i28 (.p r 0) (.p rv 0) (.p tv 0) h := by
 unfold F57_46
 simp only [cf_k, c57]
 refine blanks' (by omega) P hl fun h1 P1 f1 => ?_
 refine want' (by omega) P1 hl (by decide) fun h2 P2 f2 => ?_
 exact (T.keep (f1.trans f2)).fin P2 k
end
set_option maxHeartbeats 8000000 in
theorem rtl' {n : Nat} (hn : 5 ≤ n) {hS : H} {r tv rv : Nat} {s nm : Bs} {dp : Int} {rc : PS → Int → Option (XT × PS × Int)} {K : V → H → Prop} (hl : s.length < 50000) (hbS : Bd hS) {oT : Bs} {oK : List XT} {q : PS} {dq : Int}
  (hdp : -9223372036854775808 ≤ dp + 1 ∧ dp + 1 ≤ 9223372036854775807) (hnm : ∀ c ∈ nm, inS nmS c = true) (hnb : badN nm = false)
  (hrl : ∀ {p d t q e}, rc p d = some (t, q, e) → q.1.length ≤ p.1.length)
  (hrb : ∀ {p d t q e}, rc p d = some (t, q, e) → p.2 = true → q.2 = true)
  (hrc : ∀ (p : PS) (d : Int) (t : XT) (p' : PS) (d' : Int) (h : H) (K : V → H → Prop), rc p d = some (t, p', d') → p.2 = false → Rps h r s p d → r < h.next → Bd h →
   (∀ h' e t', Rps h' r s p' d' → But h h' (some r) → TsA h' (fun q => h.next ≤ q) t' e → (p'.2 = false → t' = t) → K (.a (encT e)) h') → Ok Tryz.prog n 57 [.p r 0, .i .i64 (dp + 1)] h K)
  (k : ∀ h' e t', Rps h' r s q dq → But hS h' (some r) → TsA h' (fun z => hS.next ≤ z) t' e → (q.2 = false → t' = .node (plainS nm) oT oK) → K (.a (encT e)) h') :
  ∀ (m m' : Nat) (tx : Bs) (ks : List XT) (p : PS) (d : Int) (h : H), treeL rc nm m' tx ks p d = some ((oT, oK), q, dq) → p.1.length + 2 ≤ m → TrR hS h r tv rv (plainS nm) tx ks → Rps h r s p d → tx.length + 4 * p.1.length ≤ 400000 → ks.length + p.1.length ≤ 60000 →
   F57_28 pw (mkX Tryz.prog) (Ok Tryz.prog n) (fun v h => Bd h → K v h) m (.p r 0) (.i .i64 dp) (.p rv 0) (.s nm) (.p tv 0) h := by
 intro m
 induction m with
 | zero => intro m' tx ks p d h _ hm; omega
 | succ m ih =>
  intro m' tx ks p d h e hm T P ht hk
  cases m' with
  | zero => cases e
  | succ m' =>
  obtain ⟨l, bd⟩ := p
  cases bd with
  | true =>
   have hq : q.2 = true := treeL_bad e rfl
   exact rend hq k (by omega) T P rfl
  | false =>
  have e0 := e
  rw [treeL, if_neg Bool.false_ne_true] at e
  simp only at e hm ht hk
  have P0 := P
  obtain ⟨a, g, ty, hg, ha, hp⟩ := P
  have hd : s.drop a = l := (hp rfl).1
  have hll : l.length ≤ s.length := by rw [← hd, List.length_drop]; omega
  rw [S57_28]
  simp only [nl_p, fa_p, Nat.zero_add]
  rw [l1_a hg rfl, nt_b, Bool.not_false, cd_t]
  unfold F57_34
  simp only [cf_k, c57]
  by_cases h60 : ∃ tl, l = 60 :: tl
  ·-- markup
   obtain ⟨tl, rfl⟩ := h60
   have hc1 : cut1 60 (60 :: tl) = some ([], tl) := by rw [cut1, if_pos rfl]
   rw [hc1] at e
   simp only [List.length_nil, List.drop_zero, badT_nil, outT_nil, List.append_nil] at e
   cases hrm : remP (60 :: tl, false) with
   | none => rw [hrm] at e; cases e
   | some v =>
    obtain ⟨bb, p3⟩ := v
    rw [hrm] at e
    refine remark' (by omega) P0 hl hrm fun h1 P1 f1 => ?_
    have T1 := T.keep f1
    cases bb with
    | true =>
     simp only at e
     have hlt := remP_lt hrm
     simp only at hlt
     rw [cd_t]
     exact ih m' tx ks p3 d h1 e (by omega) T1 P1 (by omega) (by omega)
    | false =>
     have h3 := remP_false hrm
     subst h3
     simp only at e
     rw [cd_f]
     refine take' (by omega) P1 hl (by decide) fun h2 P2 f2 => ?_
     have T2 := T1.keep f2
     cases htk : tkB [60, 47] (60 :: tl, false) with
     | true =>
      rw [if_pos htk] at e
      cases e
      rw [cd_t]
      rw [tkP_of htk] at P2 k
      refine name' (by omega) P2 hl fun h3 t P3 f3 ht3 hlt3 => ?_
      have T3 := T2.keep f3
      rw [ne_s]
      by_cases hc : (nmP ((60 :: tl).drop ([60, 47] : Bs).length, false)).2 = false ∧ nameS ((60 :: tl).drop ([60, 47] : Bs).length) = nm
      ·have htn : t = nm := by rw [ht3 hc.1]; exact hc.2
       subst htn
       rw [show (!(t == t)) = false by simp, cd_f]
       rw [close_a (nm := t) rfl hc.1 hc.2] at k
       exact cls' (by omega) hl T3 P3 fun h' e P' f' A' => k h' e _ P' f' A' fun _ => rfl
      ·have hqb := close_b (nm := nm) (p := ((60 :: tl).drop ([60, 47] : Bs).length, false)) hnm hnb rfl hc
       have bad : ∀ {h' : H} {p' : PS}, Rps h' r s p' dq → p'.2 = true → TrR hS h' r tv rv (plainS nm) oT oK → F57_46 pw (mkX Tryz.prog) (Ok Tryz.prog n) (fun v h => Bd h → K v h) (F57_28 pw (mkX Tryz.prog) (Ok Tryz.prog n) (fun v h => Bd h → K v h) m) (.p r 0) (.p rv 0) (.p tv 0) h' := by
        intro h' p' P' hb' T'
        refine cls' (by omega) hl T' P' fun h'' e P'' f'' A'' => k h'' e _ (P''.bad (wtP_bad hb') hqb) f'' A'' fun e => Bool.noConfusion (hqb.symm.trans e)
       by_cases htn : t = nm
       ·subst htn
        rw [show (!(t == t)) = false by simp, cd_f]
        refine bad P3 ?_ T3
        cases hx : (nmP ((60 :: tl).drop ([60, 47] : Bs).length, false)).2 with
        | true => rfl
        | false => exact absurd ⟨hx, (ht3 hx).symm⟩ hc
       ·rw [show (!(t == nm)) = true by simpa using htn, cd_t]
        obtain ⟨a3, g3, ty3, hg3, ha3, _⟩ := P3
        simp only [nl_p, fa_p, Nat.zero_add]
        refine s1_a hg3 (by simp) rfl fun h4 hg4 f4 => ?_
        exact bad (p' := ([], true)) ⟨a3, g3, ty3, hg4, ha3, fun e => by cases e⟩ rfl (T3.keep f4)
     | false =>
      rw [if_neg (by rw [htk]; decide)] at e
      rw [cd_f]
      rw [tkP_not htk] at P2
      refine is_ok' (by omega) P2 hl (by decide) ?_
      rw [show tkB [60] (60 :: tl, false) = true by unfold tkB hasP; simp, cd_t]
      obtain ⟨a2, g2, ty2, hg2, ha2, hp2⟩ := P2
      obtain ⟨hd2, hgd2⟩ := hp2 rfl
      have hd2 : s.drop a2 = 60 :: tl := hd2
      have hlen := congrArg List.length hd2
      rw [List.length_drop, List.length_cons] at hlen
      simp only [nl_p, fa_p, Nat.zero_add]
      rw [l1_a hg2 rfl, ad_64 (by omega), show (a2 : Int) + 1 = ((a2 + 1 : Nat) : Int) by omega]
      refine s1_a hg2 (by simp) rfl fun h3 hg3 f3 => ?_
      have T3 := T2.keep f3
      have hw : wtP [60] (60 :: tl, false) = (tl, false) := by
       unfold wtP hasP
       simp
      rw [hw] at e
      have P3 : Rps h3 r s (tl, false) d := ⟨a2 + 1, g2, ty2, hg3, by omega, fun _ => ⟨by rw [← List.drop_drop, hd2]; rfl, hgd2⟩⟩
      rw [ad_64 hdp]
      cases hrec : rc (tl, false) d with
      | none => rw [hrec] at e; cases e
      | some v =>
       obtain ⟨t, p5, d5⟩ := v
       rw [hrec] at e
       simp only at e
       have l7 := hrl hrec
       simp only at l7
       refine hrc _ _ _ _ _ h3 _ hrec rfl P3 (Nat.lt_of_lt_of_le T3.rS T3.f.1) (T3.f.2.2 hbS) fun h4 e4 t4 P4 f4 A4 ht4 => ?_
       refine T3.kid f4 A4 (by omega) fun h5 hr5 f5 T5 => ?_
       have P5 : Rps h5 r s p5 d5 := by
        obtain ⟨a4, g4, ty4, hg4, h4'⟩ := P4
        exact ⟨a4, g4, ty4, by rw [hr5 r rfl]; exact hg4, h4'⟩
       cases hb5 : p5.2 with
       | true => exact rend (treeL_bad e hb5) k (by omega) T5 P5 hb5
       | false =>
        have := ht4 hb5
        subst this
        simp only [List.length_cons] at hm ht hk
        exact ih m' tx (ks ++ [t4]) p5 d5 h5 e (by omega) T5 P5 (by omega) (by rw [List.length_append, List.length_singleton]; omega)
  ·-- text
   have h60 : ∀ tl, l ≠ 60 :: tl := fun tl e => h60 ⟨tl, e⟩
   have hb1 : tkB rmk (l, false) = false := by show (hasP rmk l && !false) = false; rw [show hasP rmk l = false from has60 h60]; rfl
   have hb2 : tkB [60, 47] (l, false) = false := by show (hasP [60, 47] l && !false) = false; rw [has60 h60]; rfl
   have hb3 : tkB [60] (l, false) = false := by show (hasP [60] l && !false) = false; rw [has60 h60]; rfl
   by_cases hnil : l = []
   ·subst hnil
    have hq : q.2 = true := by
     rw [show cut1 60 ([] : Bs) = none from rfl] at e
     cases e; rfl
    have := rnil (n := n) (nm := nm) (dp := dp) (by omega) hl hq k (m := m + 1) (by omega) T P0
    rw [S57_28] at this
    simp only [nl_p, fa_p, Nat.zero_add] at this
    rw [l1_a hg rfl, nt_b, Bool.not_false, cd_t] at this
    unfold F57_34 at this
    simp only [cf_k, c57] at this
    exact this
   refine remark' (by omega) P0 hl (remP_no hb1) fun h1 P1 f1 => ?_
   rw [cd_f]
   refine take' (by omega) P1 hl (by decide) fun h2 P2 f2 => ?_
   rw [hb2, cd_f]
   rw [tkP_not hb2] at P2
   refine is_ok' (by omega) P2 hl (by decide) ?_
   rw [hb3, cd_f]
   have T2 := T.keep (f1.trans f2)
   have r2 : r < h2.next := Nat.lt_of_lt_of_le T2.rS T2.f.1
   obtain ⟨a2, g2, ty2, hg2, ha2, hp2⟩ := P2
   obtain ⟨hd2, hgd2⟩ := hp2 rfl
   have hd2 : s.drop a2 = l := hd2
   have hlen := congrArg List.length hd2
   rw [List.length_drop] at hlen
   have hpos := List.length_pos_iff.2 hnil
   simp only [nl_p, fa_p, Nat.zero_add]
   rw [l1_a hg2 rfl, l1_a hg2 rfl, lg_s tt9 rfl, lt_i, decide_eq_true (show (a2 : Int) < s.length by omega), cd_t]
   rw [l1_a hg2 rfl]
   -- what is read
   obtain ⟨hd', hdl, hno, hat, hdef⟩ : ∃ hd' : Bs, hd'.length ≤ l.length ∧ (60 : UInt8) ∉ hd' ∧ (hd'.length = l.length ∨ l[hd'.length]? = some 60) ∧ (l.take hd'.length = hd' ∧ ((∃ tl, cut1 60 l = some (hd', tl)) ∨ (cut1 60 l = none ∧ hd' = l))) := by
    cases hc : cut1 60 l with
    | none => exact ⟨l, Nat.le_refl _, cut1_none hc, .inl rfl, by simp, .inr ⟨rfl, rfl⟩⟩
    | some v =>
     obtain ⟨x, y⟩ := v
     obtain ⟨e1, e2⟩ := cut1_some hc
     have := cut1_len hc
     refine ⟨x, by omega, e2, .inr ?_, by rw [e1]; simp, .inl ⟨y, rfl⟩⟩
     rw [e1, List.getElem?_append_right (Nat.le_refl _), Nat.sub_self]; rfl
   obtain ⟨htake, hcut⟩ := hdef
   have hdpos : 0 < hd'.length := by
    rcases hcut with ⟨y, hc⟩ | ⟨_, rfl⟩
    ·cases hd' with
     | nil => exact absurd ((cut1_some hc).1) (h60 y)
     | cons _ _ => simp
    ·exact hpos
   have go : ∀ (mm i : Nat) (h' : H), s.length - i < mm → a2 ≤ i → i ≤ a2 + hd'.length → h'.mem.get r = some (.c [.s s, .i .i64 i, .b false, .b g2] ty2 true) → But h2 h' (some r) →
     F57_148 pw (mkX Tryz.prog) (Ok Tryz.prog n) (fun v h => Bd h → K v h) (F57_28 pw (mkX Tryz.prog) (Ok Tryz.prog n) (fun v h => Bd h → K v h) m) mm (.p r 0) (.i .i64 dp) (.p rv 0) (.s nm) (.p tv 0) (.i .i64 a2) h' := by
    intro mm
    induction mm with
    | zero => intro i h' hmm; omega
    | succ mm ihm =>
     intro i h' hmm h1' h2' hg' f'
     have l0 : ∀ κ : V → Prop, pw.l1 (.p r 0) h' κ = κ (.s s) := fun κ => l1_a hg' rfl
     have l1 : ∀ κ : V → Prop, pw.l1 (.p r 1) h' κ = κ (.i .i64 i) := fun κ => l1_a hg' rfl
     have l2 : ∀ κ : V → Prop, pw.l1 (.p r 2) h' κ = κ (.b false) := fun κ => l1_a hg' rfl
     have lgs : ∀ κ : V → Prop, pw.lg (mkX Tryz.prog) 9 (.s s) κ = κ (.i .i64 (s.length : Int)) := fun κ => lg_s tt9 rfl
     have T' := T2.keep f'
     have fin : i = a2 + hd'.length → F57_105 pw (mkX Tryz.prog) (Ok Tryz.prog n) (fun v h => Bd h → K v h) (F57_28 pw (mkX Tryz.prog) (Ok Tryz.prog n) (fun v h => Bd h → K v h) m) (.p r 0) (.i .i64 dp) (.p rv 0) (.s nm) (.p tv 0) (.i .i64 a2) h' := by
      intro hi
      unfold F57_105
      simp only [nl_p, fa_p, Nat.zero_add, l0, l1]
      rw [sc_s2 tt9 rfl h1' (by omega), hd2, hi, Nat.add_sub_cancel_left, htake]
      simp only [cf_k]
      refine run_ok (by omega) (by omega) fun h3 f3 => ?_
      have T3 := T'.keep (f3.none _)
      have hg3 := f3.get (by have := f'.1; omega) (by simp) hg'
      obtain ⟨kv3, es3, c31, c32⟩ := T3.k
      have hdr : s.drop i = l.drop hd'.length := by rw [hi, ← List.drop_drop, hd2]
      cases hu : unE hd' with
      | some o =>
       have ho : outT hd' = o := by unfold outT; rw [hu]; rfl
       have hbt : badT hd' = false := by
        unfold badT
        rw [hu, indexByte_cut]
        cases hcc : cut1 60 hd' with
        | none => rfl
        | some v => exact absurd (by rw [(cut1_some (h := v.1) (t := v.2) hcc).1]; simp) hno
       simp only [ex_t, List.getElem?_cons_zero, List.getElem?_cons_succ, oP_some]
       rw [l1_a hg3 rfl]
       simp only [g0_f, nt_b, Bool.not_true, pk_f]
       refine s1_a hg3 (by simp) rfl fun h4 hg4 f4 => ?_
       have T4 := T3.keep f4
       obtain ⟨kv4, es4, c41, c42⟩ := T4.k
       have hol := outT_len hd'
       rw [ho] at hol
       rw [l1_a c41 rfl, ad_s (by omega)]
       refine T4.text (tx ++ o) fun h5 f5 T5 => ?_
       have g5 := f5.get (by have := T4.rS; have := T4.f.1; omega) (fun e => by have := Option.some.inj e; have := T4.tv0; have := T4.rS; omega) hg4
       have P5 : Rps h5 r s (l.drop hd'.length, false) d := ⟨i, g2, ty2, g5, by omega, fun _ => ⟨hdr, hgd2⟩⟩
       rcases hcut with ⟨y, hc⟩ | ⟨hc, hll'⟩
       ·have hc2 : cut1 60 (l.drop hd'.length) = some ([], y) := by
         conv => lhs; rw [(cut1_some hc).1]
         rw [List.drop_left, cut1, if_pos rfl]
        have e2 : treeL rc nm (m' + 1) (tx ++ o) ks (l.drop hd'.length, false) d = some ((oT, oK), q, dq) := by
         rw [← e0, treeL, treeL, if_neg Bool.false_ne_true, if_neg Bool.false_ne_true]
         simp only [hc, hc2, List.length_nil, List.drop_zero, badT_nil, outT_nil, List.append_nil, hbt, ho]
        refine ih (m' + 1) (tx ++ o) ks _ d h5 e2 ?_ T5 P5 ?_ ?_
        ·simp only [List.length_drop]; omega
        ·simp only [List.length_drop, List.length_append]; omega
        ·simp only [List.length_drop]; omega
       ·have hq : q.2 = true := by
         rw [hc] at e
         cases e; rfl
        rw [hll', List.drop_length] at P5
        exact rnil (by omega) hl hq k (by omega) T5 P5
      | none =>
       have hbt : badT hd' = true := by unfold badT; rw [hu]; rfl
       simp only [ex_t, List.getElem?_cons_zero, List.getElem?_cons_succ, oP_some]
       rw [l1_a hg3 rfl]
       simp only [g0_f, nt_b, Bool.not_false, pk_f]
       refine s1_a hg3 (by simp) rfl fun h4 hg4 f4 => ?_
       have T4 := T3.keep f4
       obtain ⟨kv4, es4, c41, c42⟩ := T4.k
       rw [l1_a c41 rfl, ad_s (by simp; omega), List.append_nil]
       refine T4.text tx fun h5 f5 T5 => ?_
       have g5 := f5.get (by have := T4.rS; have := T4.f.1; omega) (fun e => by have := Option.some.inj e; have := T4.tv0; have := T4.rS; omega) hg4
       have hq : q.2 = true := by
        rcases hcut with ⟨y, hc⟩ | ⟨hc, _⟩
        ·rw [hc] at e
         simp only [hbt] at e
         rw [remP_no (tkB_bad rfl)] at e
         simp only at e
         rw [if_neg (by rw [tkB_bad rfl]; decide)] at e
         split at e
         ·cases e
         ·rename_i t p5 d5 hrec
          exact treeL_bad e (hrb hrec (wtP_bad rfl))
        ·rw [hc] at e
         cases e; rfl
       exact rend (p := ([], true)) (d := d) hq k (by omega) T5 ⟨i, g2, ty2, g5, by omega, fun e => by cases e⟩ rfl
     rw [S57_148]
     simp only [nl_p, fa_p, Nat.zero_add, l0, l1, lgs]
     rw [lt_i]
     by_cases hi : i < a2 + hd'.length
     ·have hs : s[i]? = hd'[i - a2]? := by
       have : l[i - a2]? = s[i]? := by rw [← hd2, List.getElem?_drop, show a2 + (i - a2) = i by omega]
       rw [← this]
       conv => rhs; rw [← htake]
       rw [List.getElem?_take_of_lt (by omega)]
      have hs2 := List.getElem?_eq_getElem (show i - a2 < hd'.length by omega)
      have hne : hd'[i - a2]'(by omega) ≠ 60 := fun e => hno (e ▸ List.getElem_mem _)
      generalize hd'[i - a2]'(by omega) = c at hs2 hne
      rw [hs2] at hs
      have ix : ∀ κ : V → Prop, pw.ix (mkX Tryz.prog) 9 (.s s) (.i .i64 i) κ = κ (.i .u8 c.toNat) := fun κ => ix_s tt9 rfl hs
      rw [decide_eq_true (show (i : Int) < s.length by omega)]
      simp only [g1_t, nl_p, fa_p, Nat.zero_add, l0, l1, ix, ne_i, pk_t]
      rw [decide_eq_false (fun e => hne ((u8_eq (b := c) (n := 60) (by decide)).2 (by omega))), Bool.not_false, cd_t]
      unfold F57_155
      simp only [nl_p, fa_p, Nat.zero_add, l1]
      rw [ad_64 (by omega), show (i : Int) + 1 = ((i + 1 : Nat) : Int) by omega]
      refine s1_a hg' (by simp) rfl fun h3' hg3' f3' => ?_
      exact ihm (i + 1) h3' (by omega) (by omega) (by omega) hg3' (f'.trans f3')
     ·have hi' : i = a2 + hd'.length := by omega
      rcases hat with hat | hat
      ·rw [decide_eq_false (show ¬ (i : Int) < s.length by omega)]
       simp only [g1_f, pk_f, cd_f]
       exact fin hi'
      ·have hs : s[i]? = some 60 := by
        rw [hi', ← List.getElem?_drop, hd2]; exact hat
       have hlt := (List.getElem?_eq_some_iff.1 hs).1
       have ix : ∀ κ : V → Prop, pw.ix (mkX Tryz.prog) 9 (.s s) (.i .i64 i) κ = κ (.i .u8 (60 : UInt8).toNat) := fun κ => ix_s tt9 rfl hs
       rw [decide_eq_true (show (i : Int) < s.length by omega)]
       simp only [g1_t, nl_p, fa_p, Nat.zero_add, l0, l1, ix, ne_i, pk_t]
       rw [show (!decide (((60 : UInt8).toNat : Int) = 60)) = false from rfl, cd_f]
       exact fin hi'
   exact go 100000 a2 h2 (by omega) (Nat.le_refl _) (by omega) hg2 (But.refl _ _)
set_option maxHeartbeats 4000000 in
theorem tree' : ∀ (k : Nat) {n : Nat}, 6 + k ≤ n → ∀ (dp : Int), 0 ≤ dp → dp + k ≤ 1000000 → ∀ (r : Nat) (s : Bs) (p : PS) (d : Int) (t : XT) (p' : PS) (d' : Int) (h : H) (K : V → H → Prop), s.length < 50000 → treeP k dp p d = some (t, p', d') → Rps h r s p d → r < h.next → p.1.length < 50000 →
  (∀ h' e t', Rps h' r s p' d' → But h h' (some r) → TsA h' (fun q => h.next ≤ q) t' e → (p'.2 = false → t' = t) → K (.a (encT e)) h') → Ok Tryz.prog n 57 [.p r 0, .i .i64 dp] h K
 | 0, _, _, _, _, _, _, _, _, _, _, _, _, _, _, _, e, _, _, _, _ => by cases e
 | k + 1, n, hn, dp, hd0, hd1, r, s, p, d, t, p', d', h, K, hl, e, P, hr, hpl, hk => by
  obtain ⟨n, rfl⟩ := Nat.exists_eq_add_of_le' (show 1 ≤ n by omega)
  refine Ok.bd (K57 fun hbd => ?_)
  unfold F57
  refine al_a tt77 fun rv h1 g1 f1 v1 v2 => ?_
  have P1 := P.keep f1 hr (by simp)
  have body : ∀ h2, Rps h2 r s p (max d dp) → But h h2 (some r) → h2.mem.get rv = some (.c [.s [], .s [], .ns] 77 true) → rv < h2.next → F57_4 pw (mkX Tryz.prog) (Ok Tryz.prog n) (fun v h => Bd h → K v h) (.p r 0) (.i .i64 dp) (.p rv 0) h2 := by
   intro h2 P2 f2 g2 rv2
   unfold F57_4
   rw [cf_k]
   refine name' (by omega) P2 hl fun h3 tn P3 f3 htn hlen => ?_
   rw [cf_k]
   refine plain' (by omega) (by omega) ?_
   refine bl_a (v := .a [.s (plainS tn), .s [], .ns]) ?_ ?_
   ·unfold blW
    rw [ti_some _ tt77]
    rfl
   refine al_a tt77 fun tv h4 g4 f4 t1 t2 => ?_
   refine sn_w g4 (cs := [.s (plainS tn), .s [], .ns]) rfl rfl rfl rfl fun h5 g5 f5 => ?_
   have f13 := f2.trans f3
   have f15 : But h h5 (some r) := (f13.trans (f4.none _)).over f5 (.inr fun z e => by cases e; exact Nat.le_trans f13.1 t1)
   have rvr : some rv ≠ some r := fun e => by cases e; omega
   have gv3 := f3.get rv2 rvr g2
   have rv3 : rv < h3.next := Nat.lt_of_lt_of_le rv2 f3.1
   have gv4 := f4.get rv3 (by simp) gv3
   have rvt : rv ≠ tv := by omega
   have gv5 := f5.get (Nat.lt_of_lt_of_le rv3 f4.1) (fun e => rvt (Option.some.inj e)) gv4
   have r2 : r < h2.next := Nat.lt_of_lt_of_le hr f2.1
   have T : TrR h h5 r tv rv (plainS tn) [] [] := ⟨f15, hr, Nat.le_trans f13.1 t1, v1, Nat.lt_of_lt_of_le t2 f5.1, Nat.lt_of_lt_of_le rv3 (Nat.le_trans f4.1 f5.1), fun e => rvt e.symm, ⟨_, gv5, rfl⟩, .ns, [], g5, ⟨rfl, .inl ⟨rfl, rfl⟩⟩, (fun q hq => by cases hq), rfl⟩
   have P5 : Rps h5 r s (nmP p) (max d dp) := (P3.keep f4 (Nat.lt_of_lt_of_le r2 f3.1) (by simp)).keep f5 (Nat.lt_of_lt_of_le r2 (Nat.le_trans f3.1 f4.1)) (fun e => by
    cases e
    have := Nat.lt_of_lt_of_le r2 f3.1
    omega)
   have hnle := nmP_le p
   have ho : openP p = opL 100000 (nmP p) := rfl
   rw [treeP, ho] at e
   cases hop : opL 100000 (nmP p) with
   | mk b q0 =>
    rw [hop] at e
    simp only at e
    have hq0 : q0.2 = false → (nmP p).2 = false := fun hq => by
     cases hx : (nmP p).2 with
     | false => rfl
     | true =>
      rw [opL_bad hx] at hop
      cases hop
      rw [hx] at hq
      cases hq
    have hol : q0.1.length ≤ p.1.length := by
     have := opL_le 100000 (nmP p)
     rw [hop] at this
     exact Nat.le_trans this hnle
    refine atl' (by omega) hl hbd (nm := tn) (fun hb h6 P6 T6 => ?_) (fun hb h6 P6 T6 => ?_) 100000 100000 (nmP p) h5 hop (by omega) (by omega) P5 T
    ·rw [hb, if_pos rfl] at e
     cases e
     exact T6.fin P6 fun h' e' P' f' A' => hk h' e' _ P' f' A' fun hq => by rw [htn (hq0 hq)]
    ·unfold F57_16
     cases hqb : q0.2 with
     | true =>
      have hp' : p'.2 = true := by
       cases b with
       | true => rw [if_pos rfl] at e; cases e; exact hqb
       | false =>
        rw [if_neg (by decide)] at e
        split at e
        ·cases e
        ·rename_i hT
         cases e
         exact treeL_bad hT hqb
      exact rend (T0 := t) hp' hk (by omega) T6 P6 hqb
     | false =>
      have hb' : b = false := by
       rcases hb with hb | hb
       ·exact hb
       ·rw [hqb] at hb; cases hb
      rw [hb', if_neg (by decide)] at e
      have hnb := hq0 hqb
      have htn' := htn hnb
      subst htn'
      have hnb2 : badN (nameS p.1) = false := by
       have : (p.2 || badN (nameS p.1)) = false := hnb
       rw [Bool.or_eq_false_iff] at this
       exact this.2
      split at e
      ·cases e
      ·rename_i tx ks p2 d2 hT
       cases e
       refine rtl' (by omega) hl hbd (by omega) (fun c hc => nameS_in hc) hnb2 (fun h => treeP_le k h) (fun h hb => treeP_bad h hb) (fun p d t p' d' h K e hb P hr hbd hk => ?_) hk 100000 100000 [] [] q0 _ h6 hT (by omega) T6 P6 (by simp; omega) (by simp; omega)
       refine tree' k (by omega) (dp + 1) (by omega) (by omega) r s p d t p' d' h K hl e P hr ?_ hk
       obtain ⟨a, _, _, _, ha, hp⟩ := P
       rw [← (hp hb).1, List.length_drop]
       omega
  rw [gt_i]
  obtain ⟨a, g, ty, hg, ha, hp⟩ := P1
  by_cases hd8 : 8 < dp
  ·rw [decide_eq_true hd8, cd_t]
   simp only [nl_p, fa_p, Nat.zero_add]
   refine s1_a hg (by simp) rfl fun h2 hg2 f2 => ?_
   have rvr : some rv ≠ some r := fun e => by cases e; omega
   refine body h2 ⟨a, true, ty, hg2, ha, fun e => ⟨(hp e).1, ?_⟩⟩ ((f1.none _).trans f2) (f2.get v2 rvr g1) (Nat.lt_of_lt_of_le v2 f2.1)
   rw [decide_eq_true (by omega)]
  ·rw [decide_eq_false hd8, cd_f]
   refine body h1 ⟨a, g, ty, hg, ha, fun e => ⟨(hp e).1, ?_⟩⟩ (f1.none _) g1 v2
   rw [(hp e).2]
   exact decide_eq_decide.2 (by omega)
theorem an8 {x : X} {t : TypeId} {m : Int} {f : Nat → Nat} (hf : (List.range 256).all (fun z => decide ((IntKind.u8.wrap (BitVec.ofInt 8 (z : Int) &&& BitVec.ofInt 8 m).toNat) = (f z : Int))) = true) {z : Nat} (hz : z < 256) {κ : V → Prop} : pw.an x t (.i .u8 (z : Int)) (.i .u8 m) κ = κ (.i .u8 (f z : Int)) := by
 rw [an_i]
 have := List.all_eq_true.1 hf z (List.mem_range.2 hz)
 rw [decide_eq_true_eq] at this
 exact congrArg (fun z => κ (.i .u8 z)) this
theorem a31 : (List.range 256).all (fun z => decide ((IntKind.u8.wrap (BitVec.ofInt 8 (z : Int) &&& BitVec.ofInt 8 31).toNat) = ((fun z => z % 32) z : Nat))) = true := by decide +kernel
theorem a15 : (List.range 256).all (fun z => decide ((IntKind.u8.wrap (BitVec.ofInt 8 (z : Int) &&& BitVec.ofInt 8 15).toNat) = ((fun z => z % 16) z : Nat))) = true := by decide +kernel
theorem a7 : (List.range 256).all (fun z => decide ((IntKind.u8.wrap (BitVec.ofInt 8 (z : Int) &&& BitVec.ofInt 8 7).toNat) = ((fun z => z % 8) z : Nat))) = true := by decide +kernel
theorem a63 : (List.range 256).all (fun z => decide ((IntKind.u8.wrap (BitVec.ofInt 8 (z : Int) &&& BitVec.ofInt 8 63).toNat) = ((fun z => z % 64) z : Nat))) = true := by decide +kernel
theorem a192 : (List.range 256).all (fun z => decide ((IntKind.u8.wrap (BitVec.ofInt 8 (z : Int) &&& BitVec.ofInt 8 192).toNat) = ((fun z => z / 64 * 64) z : Nat))) = true := by decide +kernel
theorem or_6 {x : X} {t : TypeId} {a b : Nat} (h1 : a ≤ 1000000000) (h2 : b < 64) {κ : V → Prop} : pw.or x t (.i .i64 ((a : Int) * 64)) (.i .i64 (b : Int)) κ = κ (.i .i64 ((a * 64 + b : Nat) : Int)) := by
 rw [or_i, BitVec.toNat_or, BitVec.toNat_ofInt, BitVec.toNat_ofInt]
 have e1 : ((((a : Int) * 64) % ((2 ^ IntKind.i64.bits : Nat) : Int)).toNat) = a * 64 := by
  rw [Int.emod_eq_of_lt (by omega) (by simp [IntKind.bits]; omega)]; omega
 have e2 : (((b : Int) % ((2 ^ IntKind.i64.bits : Nat) : Int)).toNat) = b := by
  rw [Int.emod_eq_of_lt (by omega) (by simp [IntKind.bits]; omega)]; omega
 rw [e1, e2, show a * 64 = 2 ^ 6 * a by omega, ← Nat.two_pow_add_eq_or_of_lt (by omega), wrap64_in (by omega)]
theorem dT [i : Decidable True] : decide True = true := by simp
theorem dF [i : Decidable False] : decide False = false := by simp
section
variable {n : Nat} {s : Bs} {i : Nat} {h : H} {K : V → H → Prop}
abbrev R0 : V := .t [.i .i64 0, .i .i64 0]
theorem rl1 (hl : s.length < 50000) {m N R j : Nat} (hj : i + j < s.length) (hN : j < N) (hN2 : N ≤ 4) (hR : R ≤ 1000000000)
  (k0 : ct (s.drop i) j = false → K R0 h) (k1 : ∀ R' : Nat, R' = R * 64 + nth (s.drop i) j % 64 → ct (s.drop i) j = true → F88_82 pw (mkX Tryz.prog) (Ok Tryz.prog n) (fun v h => Bd h → K v h) m (.s s) (.i .i64 i) (.i .i64 N) (.i .i64 R') (.i .i64 (j + 1 : Nat)) h) :
  F88_82 pw (mkX Tryz.prog) (Ok Tryz.prog n) (fun v h => Bd h → K v h) (m + 1) (.s s) (.i .i64 i) (.i .i64 N) (.i .i64 R) (.i .i64 j) h := by
 rw [S88_82, lt_i, decide_eq_true (show (j : Int) < N by omega), cd_t]
 have hs := List.getElem?_eq_getElem hj
 generalize s[i + j] = c at hs
 have hn : nth (s.drop i) j = c.toNat := by rw [nth_drop]; exact nth_at hs
 have hct : ct (s.drop i) j = (c.toNat / 64 == 2) := by
  unfold ct
  rw [hn, decide_eq_true (show j < (s.drop i).length by rw [List.length_drop]; omega), Bool.true_and]
 have h256 := c.toNat_lt
 unfold F88_88
 rw [ad_64 (by omega), show (i : Int) + j = ((i + j : Nat) : Int) by omega, ix_s tt9 rfl hs, an8 a192 h256, ne_i]
 by_cases hc : c.toNat / 64 = 2
 ·rw [decide_eq_true (by show ((c.toNat / 64 * 64 : Nat) : Int) = 128; omega), Bool.not_true, cd_f]
  unfold F88_103
  rw [show (6 : Int) = ((6 : Nat) : Int) from rfl, sl_k 6 (by decide), show (2 : Int) ^ 6 = 64 from rfl, wrap64_in (by omega), ad_64 (by omega), show (i : Int) + j = ((i + j : Nat) : Int) by omega, ix_s tt9 rfl hs, an8 a63 h256, ci_64 (by show _ ∧ ((c.toNat % 64 : Nat) : Int) ≤ _; constructor <;> omega)]
  rw [or_6 hR (show c.toNat % 64 < 64 by omega)]
  unfold F88_94
  rw [ad_64 (by omega), show (j : Int) + 1 = ((j + 1 : Nat) : Int) by omega, ← hn]
  exact k1 _ rfl (by rw [hct, hc]; rfl)
 ·rw [decide_eq_false (by show ¬ ((c.toNat / 64 * 64 : Nat) : Int) = 128; omega), Bool.not_false, cd_t]
  exact fun _ => k0 (by rw [hct]; simpa using hc)
theorem re2 {R : Nat} (hR : R < 55296) (k : K (.t [.i .i64 R, .i .i64 2]) h) : F88_25 pw (mkX Tryz.prog) (Ok Tryz.prog n) (fun v h => Bd h → K v h) (.i .i64 2) (.i .i64 R) h := by
 unfold F88_25
 have e1 : decide ((2 : Int) = 3) = false := rfl
 have e2 : decide ((2 : Int) = 4) = false := rfl
 have e3 : decide ((55296 : Int) ≤ R) = false := decide_eq_false (by omega)
 simp only [eq_i, ge_i, lt_i, e1, e2, dT, dF, e3, g1_t, g1_f, g0_t, g0_f, g1_u, g0_u, pk_t, pk_f, cd_f]
 exact fun _ => k
theorem re3 {R : Nat} (k0 : ¬ (2048 ≤ R ∧ (R < 55296 ∨ 57344 ≤ R)) → K R0 h) (k : (2048 ≤ R ∧ (R < 55296 ∨ 57344 ≤ R)) → K (.t [.i .i64 R, .i .i64 3]) h) : F88_25 pw (mkX Tryz.prog) (Ok Tryz.prog n) (fun v h => Bd h → K v h) (.i .i64 3) (.i .i64 R) h := by
 unfold F88_25
 have e1 : decide ((3 : Int) = 3) = true := rfl
 have e2 : decide ((3 : Int) = 4) = false := rfl
 cases q1 : decide ((R : Int) < 2048) <;> cases q2 : decide ((55296 : Int) ≤ R) <;> cases q3 : decide ((R : Int) < 57344) <;> simp only [eq_i, ge_i, lt_i, e1, e2, dT, dF, q1, q2, q3, g1_t, g1_f, g0_t, g0_f, g1_u, g0_u, pk_t, pk_f, cd_f, cd_t] <;> simp only [decide_eq_true_eq, decide_eq_false_iff_not] at q1 q2 q3 <;> first | exact fun _ => k (by omega) | exact fun _ => k0 (by omega)
def okR4 (R : Nat) : Bool := decide (65536 ≤ R) && decide (R ≤ 1114111)
theorem rend4 {R : Nat} {W N Rv : V} (hN : N = .i .i64 ((4 : Nat) : Int)) (hRv : Rv = .i .i64 (R : Int)) (hW : W = if okR4 R = true then .t [.i .i64 R, .i .i64 ((4 : Nat) : Int)] else .t [.i .i64 ((0 : Nat) : Int), .i .i64 ((0 : Nat) : Int)]) (k : K W h) : F88_25 pw (mkX Tryz.prog) (Ok Tryz.prog n) (fun v h => Bd h → K v h) N Rv h := by
 subst hW
 subst hN
 subst hRv
 unfold F88_25
 have e1 : decide (((4 : Nat) : Int) = 3) = false := rfl
 have e2 : decide (((4 : Nat) : Int) = 4) = true := rfl
 have a1 : decide ((R : Int) < 65536) = !decide (65536 ≤ R) := cmpT (n := R) (m := 65536)
 have a2 : decide ((1114111 : Int) < R) = !decide (R ≤ 1114111) := cmpT (n := 1114111) (m := R)
 unfold okR4 at k
 cases q1 : decide (65536 ≤ R) <;> cases q4 : decide (R ≤ 1114111) <;> cases q2 : decide ((55296 : Int) ≤ R) <;> cases q3 : decide ((R : Int) < 57344) <;> rw [q1, q4] at k <;> rw [q1] at a1 <;> rw [q4] at a2 <;> simp only [eq_i, ge_i, lt_i, gt_i, e1, e2, dT, dF, a1, a2, q2, q3, Bool.not_true, Bool.not_false, g1_t, g1_f, g0_t, g0_f, g1_u, g0_u, pk_t, pk_f, cd_f, cd_t] <;> first | exact fun _ => k | (exfalso; simp only [decide_eq_true_eq, decide_eq_false_iff_not] at q1 q2 q3 q4; omega)
theorem r15 (hl : s.length < 50000) (hi : i < s.length) {N R : Nat} (hN : 1 ≤ N) (hN2 : N ≤ 4) (k0 : s.length - i < N → K R0 h) (k1 : N ≤ s.length - i → F88_20 pw (mkX Tryz.prog) (Ok Tryz.prog n) (fun v h => Bd h → K v h) (.s s) (.i .i64 i) (.i .i64 N) (.i .i64 R) h) :
  F88_15 pw (mkX Tryz.prog) (Ok Tryz.prog n) (fun v h => Bd h → K v h) (.s s) (.i .i64 i) (.i .i64 N) (.i .i64 R) h := by
 unfold F88_15
 have lg : ∀ κ : V → Prop, pw.lg (mkX Tryz.prog) 9 (.s s) κ = κ (.i .i64 (s.length : Int)) := fun κ => lg_s tt9 rfl
 have e1 : decide ((N : Int) = 0) = false := decide_eq_false (by omega)
 have sb : ∀ κ : V → Prop, pw.sb (mkX Tryz.prog) 3 (.i .i64 (s.length : Int)) (.i .i64 (i : Int)) κ = κ (.i .i64 ((s.length : Int) - i)) := fun κ => sb_64 (by omega)
 simp only [eq_i, e1, g0_f, lg, sb, lt_i, pk_f]
 by_cases hc : s.length - i < N
 ·rw [decide_eq_true (show (s.length : Int) - i < N by omega), cd_t]
  exact fun _ => k0 hc
 ·rw [decide_eq_false (show ¬ (s.length : Int) - i < N by omega), cd_f]
  exact k1 (by omega)
end
set_option maxHeartbeats 4000000 in
theorem cl4 {n : Nat} {s : Bs} {i : Nat} {h : H} {K : V → H → Prop} {b : UInt8} (hz : nth (s.drop i) 0 = b.toNat) (hi : i < s.length) (hl : s.length < 50000) {N : Nat} (hN : N = 4)
  (k : K (.t [.i .i64 ((if (ct (s.drop i) 1 && ct (s.drop i) 2 && ct (s.drop i) 3) = true then (if 65536 ≤ r4 (s.drop i) ∧ r4 (s.drop i) ≤ 1114111 then (r4 (s.drop i), 4) else (0, 0)) else (0, 0) : Nat × Nat).1 : Int), .i .i64 ((if (ct (s.drop i) 1 && ct (s.drop i) 2 && ct (s.drop i) 3) = true then (if 65536 ≤ r4 (s.drop i) ∧ r4 (s.drop i) ≤ 1114111 then (r4 (s.drop i), 4) else (0, 0)) else (0, 0) : Nat × Nat).2 : Int)]) h) :
  F88_15 pw (mkX Tryz.prog) (Ok Tryz.prog n) (fun v h => Bd h → K v h) (.s s) (.i .i64 i) (.i .i64 N) (.i .i64 (b.toNat % 8 : Nat)) h := by
 have hlen : (s.drop i).length = s.length - i := List.length_drop ..
 have cf : ∀ j, ¬ j < s.length - i → ct (s.drop i) j = false := fun j hj => by unfold ct; rw [hlen, decide_eq_false hj]; rfl
 have n1 := nth_lt (s.drop i) 1
 refine r15 hl hi (by omega) (by omega) (fun h2 => ?_) fun h2 => ?_
 ·rw [cf 3 (by omega), Bool.and_false, if_neg (by decide)] at k; exact k
 unfold F88_20
 refine rl1 (m := 99999) (j := 1) hl (by omega) (by omega) (by omega) (by omega) (fun e => ?_) fun R1 u1 e => ?_
 ·rw [e, Bool.false_and, Bool.false_and, if_neg (by decide)] at k; exact k
 refine rl1 (m := 99998) (j := 2) hl (by omega) (by omega) (by omega) (by omega) (fun e2 => ?_) fun R2 u2 e2 => ?_
 ·rw [e, e2, Bool.and_false, Bool.false_and, if_neg (by decide)] at k; exact k
 refine rl1 (m := 99997) (j := 3) hl (by omega) (by omega) (by omega) (by omega) (fun e3 => ?_) fun R3 u3 e3 => ?_
 ·rw [e, e2, e3, if_neg (by decide)] at k; exact k
 rw [e, e2, e3, if_pos (show (true && true && true) = true from rfl)] at k
 rw [show (99997 : Nat) = 99996 + 1 from rfl, S88_82, lt_i, decide_eq_false (by omega), cd_f]
 have hr : r4 (s.drop i) = R3 := by unfold r4; rw [hz]; omega
 rw [hr] at k
 refine rend4 (R := R3) (by rw [hN]) rfl ?_ k
 unfold okR4
 by_cases c5 : 65536 ≤ R3 ∧ R3 ≤ 1114111
 ·rw [if_pos c5, if_pos (by rw [decide_eq_true c5.1, decide_eq_true c5.2]; rfl)]
 ·rw [if_neg c5, if_neg (by rw [Bool.and_eq_true, decide_eq_true_eq, decide_eq_true_eq]; exact c5)]
set_option maxHeartbeats 4000000 in
theorem rune' {n : Nat} (hn : 1 ≤ n) {s : Bs} {i : Nat} (hi : i < s.length) (hl : s.length < 50000) {h : H} {K : V → H → Prop} (k : K (.t [.i .i64 ((ru (s.drop i)).1 : Int), .i .i64 ((ru (s.drop i)).2 : Int)]) h) : Ok Tryz.prog n 88 [.s s, .i .i64 i] h K := by
 obtain ⟨n, rfl⟩ := Nat.exists_eq_add_of_le' hn
 refine Ok.bd (K88 fun hbd => ?_)
 unfold F88
 have hs := List.getElem?_eq_getElem hi
 generalize s[i] = b at hs
 have hz : nth (s.drop i) 0 = b.toNat := by rw [nth_drop]; exact nth_at hs
 have h256 := b.toNat_lt
 have n1 := nth_lt (s.drop i) 1
 have n2 := nth_lt (s.drop i) 2
 have n3 := nth_lt (s.drop i) 3
 have hlen : (s.drop i).length = s.length - i := List.length_drop ..
 rw [ix_s tt9 rfl hs, lt_i]
 unfold ru at k
 rw [hz] at k
 by_cases hc : b.toNat < 128
 ·rw [if_pos hc] at k
  rw [decide_eq_true (show (b.toNat : Int) < 128 by omega), cd_t, ci_64 (by omega)]
  exact fun _ => k
 rw [if_neg hc] at k
 rw [decide_eq_false (show ¬ (b.toNat : Int) < 128 by omega), cd_f]
 unfold F88_9
 have cf : ∀ j, ¬ j < s.length - i → ct (s.drop i) j = false := fun j hj => by unfold ct; rw [hlen, decide_eq_false hj]; rfl
 rw [ge_i]
 by_cases hA : 194 ≤ b.toNat ∧ b.toNat < 224
 ·rw [decide_eq_true (show (194 : Int) ≤ b.toNat by omega)]
  simp only [g1_t, lt_i, pk_t]
  rw [decide_eq_true (show (b.toNat : Int) < 224 by omega), cd_t, an8 a31 h256, ci_64 (by show _ ∧ ((b.toNat % 32 : Nat) : Int) ≤ _; constructor <;> omega)]
  rw [show (b.toNat / 32 == 6) = true by rw [beq_iff_eq]; omega, show (b.toNat / 16 == 14) = false by rw [beq_eq_false_iff_ne]; omega, show (b.toNat / 8 == 30) = false by rw [beq_eq_false_iff_ne]; omega] at k
  simp only [Bool.true_and, Bool.false_and, Bool.false_eq_true, if_false] at k
  refine r15 (N := 2) hl hi (by omega) (by omega) (fun h2 => ?_) fun h2 => ?_
  ·rw [cf 1 (by omega), if_neg (by decide)] at k; exact k
  ·unfold F88_20
   refine rl1 (m := 99999) (N := 2) (j := 1) hl (by omega) (by omega) (by omega) (by show b.toNat % 32 ≤ _; omega) (fun e => ?_) fun R1 u1 e => ?_
   ·rw [e, if_neg (by decide)] at k; exact k
   ·rw [e, if_pos rfl] at k
    rw [show (99999 : Nat) = 99998 + 1 from rfl, S88_82, lt_i, decide_eq_false (by decide), cd_f]
    have u1 : R1 = b.toNat % 32 * 64 + nth (s.drop i) 1 % 64 := u1
    have hr : r2 (s.drop i) = R1 := by unfold r2; rw [hz]; omega
    rw [hr, if_pos (by omega)] at k
    exact re2 (by omega) k
 have hA' : (decide ((194 : Int) ≤ b.toNat) && decide ((b.toNat : Int) < 224)) = false := by
  rw [Bool.and_eq_false_iff, decide_eq_false_iff_not, decide_eq_false_iff_not]; omega
 have stepA : ∀ {P Q : H → Prop}, Q h → pw.g1 (.b (decide ((194 : Int) ≤ b.toNat))) (fun κ => κ (.i .u8 (b.toNat : Int)) h) h (fun v154 h154 => pw.g1 (.b (decide ((194 : Int) ≤ b.toNat))) (fun κ => pw.lt (mkX Tryz.prog) 5 v154 (.i .u8 224) fun v155 => κ v155 h154) h154 fun v156 h156 => pw.pk (.b (decide ((194 : Int) ≤ b.toNat))) v156 (.b false) fun v157 => pw.cd v157 (P h156) (Q h156)) := by
  intro P Q hq
  cases q1 : decide ((194 : Int) ≤ b.toNat) <;> cases q2 : decide ((b.toNat : Int) < 224) <;> rw [q1, q2] at hA' <;> simp only [g1_t, g1_f, lt_i, q2, pk_t, pk_f, cd_f] <;> first | exact hq | cases hA'
 refine stepA ?_
 rw [ge_i]
 by_cases hB : 224 ≤ b.toNat ∧ b.toNat < 240
 ·rw [decide_eq_true (show (224 : Int) ≤ b.toNat by omega)]
  simp only [g1_t, lt_i, pk_t]
  rw [decide_eq_true (show (b.toNat : Int) < 240 by omega), cd_t, an8 a15 h256, ci_64 (by show _ ∧ ((b.toNat % 16 : Nat) : Int) ≤ _; constructor <;> omega)]
  rw [show (b.toNat / 32 == 6) = false by rw [beq_eq_false_iff_ne]; omega, show (b.toNat / 16 == 14) = true by rw [beq_iff_eq]; omega, show (b.toNat / 8 == 30) = false by rw [beq_eq_false_iff_ne]; omega] at k
  simp only [Bool.true_and, Bool.false_and, Bool.false_eq_true, if_false] at k
  refine r15 (N := 3) hl hi (by omega) (by omega) (fun h2 => ?_) fun h2 => ?_
  ·rw [cf 2 (by omega), Bool.and_false, if_neg (by decide)] at k; exact k
  ·unfold F88_20
   refine rl1 (m := 99999) (N := 3) (j := 1) hl (by omega) (by omega) (by omega) (by show b.toNat % 16 ≤ _; omega) (fun e => ?_) fun R1 u1 e => ?_
   ·rw [e, Bool.false_and, if_neg (by decide)] at k; exact k
   have u1 : R1 = b.toNat % 16 * 64 + nth (s.drop i) 1 % 64 := u1
   refine rl1 (m := 99998) (N := 3) (j := 2) hl (by omega) (by omega) (by omega) (by omega) (fun e2 => ?_) fun R2 u2 e2 => ?_
   ·rw [e, e2, if_neg (by decide)] at k; exact k
   rw [e, e2, if_pos (show (true && true) = true from rfl)] at k
   rw [show (99998 : Nat) = 99997 + 1 from rfl, S88_82, lt_i, decide_eq_false (by decide), cd_f]
   have hr : r3 (s.drop i) = R2 := by unfold r3; rw [hz]; omega
   rw [hr] at k
   refine re3 (fun e3 => ?_) fun e3 => ?_
   ·rw [if_neg e3] at k; exact k
   ·rw [if_pos e3] at k; exact k
 have hB' : (decide ((224 : Int) ≤ b.toNat) && decide ((b.toNat : Int) < 240)) = false := by
  rw [Bool.and_eq_false_iff, decide_eq_false_iff_not, decide_eq_false_iff_not]; omega
 have stepB : ∀ {P Q : H → Prop}, Q h → pw.g1 (.b (decide ((224 : Int) ≤ b.toNat))) (fun κ => κ (.i .u8 (b.toNat : Int)) h) h (fun v154 h154 => pw.g1 (.b (decide ((224 : Int) ≤ b.toNat))) (fun κ => pw.lt (mkX Tryz.prog) 5 v154 (.i .u8 240) fun v155 => κ v155 h154) h154 fun v156 h156 => pw.pk (.b (decide ((224 : Int) ≤ b.toNat))) v156 (.b false) fun v157 => pw.cd v157 (P h156) (Q h156)) := by
  intro P Q hq
  cases q1 : decide ((224 : Int) ≤ b.toNat) <;> cases q2 : decide ((b.toNat : Int) < 240) <;> rw [q1, q2] at hB' <;> simp only [g1_t, g1_f, lt_i, q2, pk_t, pk_f, cd_f] <;> first | exact hq | cases hB'
 refine stepB ?_
 rw [ge_i]
 by_cases hC : 240 ≤ b.toNat ∧ b.toNat < 245
 ·rw [decide_eq_true (show (240 : Int) ≤ b.toNat by omega)]
  simp only [g1_t, lt_i, pk_t]
  rw [decide_eq_true (show (b.toNat : Int) < 245 by omega), cd_t, an8 a7 h256, ci_64 (by show _ ∧ ((b.toNat % 8 : Nat) : Int) ≤ _; constructor <;> omega)]
  rw [show (b.toNat / 32 == 6) = false by rw [beq_eq_false_iff_ne]; omega, show (b.toNat / 16 == 14) = false by rw [beq_eq_false_iff_ne]; omega, show (b.toNat / 8 == 30) = true by rw [beq_iff_eq]; omega] at k
  simp only [Bool.true_and, Bool.false_and, Bool.false_eq_true, if_false] at k
  exact cl4 hz hi hl rfl k
 have hC' : (decide ((240 : Int) ≤ b.toNat) && decide ((b.toNat : Int) < 245)) = false := by
  rw [Bool.and_eq_false_iff, decide_eq_false_iff_not, decide_eq_false_iff_not]; omega
 have stepC : ∀ {P Q : H → Prop}, Q h → pw.g1 (.b (decide ((240 : Int) ≤ b.toNat))) (fun κ => κ (.i .u8 (b.toNat : Int)) h) h (fun v154 h154 => pw.g1 (.b (decide ((240 : Int) ≤ b.toNat))) (fun κ => pw.lt (mkX Tryz.prog) 5 v154 (.i .u8 245) fun v155 => κ v155 h154) h154 fun v156 h156 => pw.pk (.b (decide ((240 : Int) ≤ b.toNat))) v156 (.b false) fun v157 => pw.cd v157 (P h156) (Q h156)) := by
  intro P Q hq
  cases q1 : decide ((240 : Int) ≤ b.toNat) <;> cases q2 : decide ((b.toNat : Int) < 245) <;> rw [q1, q2] at hC' <;> simp only [g1_t, g1_f, lt_i, q2, pk_t, pk_f, cd_f] <;> first | exact hq | cases hC'
 refine stepC ?_
 unfold F88_15
 have e0 : decide ((0 : Int) = 0) = true := rfl
 simp only [eq_i, e0, g0_t, pk_t, cd_t]
 refine fun _ => ?_
 have fin : K R0 h := by
  unfold r2 r3 r4 at k
  rw [hz] at k
  by_cases c1 : (b.toNat / 32 == 6 && ct (s.drop i) 1) = true
  ·rw [if_pos c1] at k
   rw [Bool.and_eq_true, beq_iff_eq] at c1
   rw [if_neg (by omega)] at k
   exact k
  rw [if_neg c1] at k
  by_cases c2 : (b.toNat / 16 == 14 && ct (s.drop i) 1 && ct (s.drop i) 2) = true
  ·rw [Bool.and_eq_true, Bool.and_eq_true, beq_iff_eq] at c2
   exfalso; omega
  rw [if_neg c2] at k
  by_cases c3 : (b.toNat / 8 == 30 && ct (s.drop i) 1 && ct (s.drop i) 2 && ct (s.drop i) 3) = true
  ·rw [if_pos c3] at k
   rw [Bool.and_eq_true, Bool.and_eq_true, Bool.and_eq_true, beq_iff_eq] at c3
   rw [if_neg (by omega)] at k
   exact k
  rw [if_neg c3] at k
  exact k
 exact fin
theorem clean' {n : Nat} (hn : 2 ≤ n) {l : Bs} (hl : l.length < 50000) {h : H} {K : V → H → Prop} (k : K (.b (clnB l)) h) : Ok Tryz.prog n 51 [.s l] h K := by
 obtain ⟨n, rfl⟩ := Nat.exists_eq_add_of_le' (show 1 ≤ n by omega)
 refine Ok.bd (K51 fun hbd => ?_)
 unfold F51
 have go : ∀ (m i : Nat), l.length - i < m → i ≤ l.length → wkS mayN (l.drop i) = clnB l → F51_6 pw (mkX Tryz.prog) (Ok Tryz.prog n) (fun v h => Bd h → K v h) m (.s l) (.i .i64 i) h := by
  intro m
  induction m with
  | zero => intro i hm; omega
  | succ m ih =>
   intro i hm hi hv
   rw [S51_6, lg_s tt9 rfl, lt_i]
   by_cases hlt : i < l.length
   ·rw [decide_eq_true (show (i : Int) < l.length by omega), cd_t]
    unfold F51_9
    simp only [cf_k]
    refine rune' (by omega) hlt hl ?_
    have hne : l.drop i ≠ [] := by rw [ne_eq, List.drop_eq_nil_iff]; omega
    have e1 := wkS_ne (f := mayN) hne
    have hle := ru_le hne
    rw [List.length_drop] at hle
    simp only [ex_t, List.getElem?_cons_zero, List.getElem?_cons_succ, oP_some, eq_i]
    rw [hv] at e1
    by_cases hz : (ru (l.drop i)).2 = 0
    ·rw [if_pos hz] at e1
     rw [decide_eq_true (show ((ru (l.drop i)).2 : Int) = 0 by omega)]
     simp only [g0_t, pk_t, cd_t]
     rw [e1] at k
     exact fun _ => k
    ·rw [if_neg hz, List.drop_drop] at e1
     rw [decide_eq_false (show ¬ ((ru (l.drop i)).2 : Int) = 0 by omega)]
     simp only [g0_f, cf_k]
     refine rmay_ok (by omega) ?_
     cases hm2 : mayN (ru (l.drop i)).1 with
     | false =>
      rw [hm2, Bool.false_and] at e1
      simp only [g0_f, nt_b, Bool.not_false, pk_f, cd_t]
      rw [e1] at k
      exact fun _ => k
     | true =>
      rw [hm2, Bool.true_and] at e1
      simp only [g0_f, nt_b, Bool.not_true, pk_f, cd_f]
      unfold F51_20
      rw [ad_64 (by omega), show (i : Int) + (ru (l.drop i)).2 = ((i + (ru (l.drop i)).2 : Nat) : Int) by omega]
      exact ih (i + (ru (l.drop i)).2) (by omega) (by omega) e1.symm
   ·rw [decide_eq_false (show ¬ (i : Int) < l.length by omega), cd_f]
    unfold F51_3
    rw [List.drop_eq_nil_of_le (by omega), wkS_nil] at hv
    rw [← hv] at k
    exact fun _ => k
 exact go 100000 0 (by omega) (by omega) rfl
theorem mm_i {k : IntKind} {m n : Int} {κ : V → Prop} : pw.mm false (.i k m) (.i k n) κ = κ (.i k (max m n)) := by
 simp only [pw, cond_false, maxP, oP]
 congr 2
 by_cases h : m < n
 ·rw [if_pos h]; omega
 ·rw [if_neg h]; omega
theorem ck_1 {ps : List Nat} {en : T B} {h : H} {r : RecW} {i : Nat} {g : H} {hs : List (Nat × H)} {κ : Prop} (hp : (ps.getD i 0).testBit r.ix = true) (h0 : againW en r h = true) (hr : ∀ p ∈ hs, againW en r p.2 = true) (hk : κ) : pw.ck ps en h (r :: []) ((i, g) :: hs) κ := by
 refine ⟨?_, hk⟩
 simp only [List.all_cons, List.all_nil, Bool.and_true]
 unfold standsW
 rw [hp, cond_true, Bool.true_and]
 exact standsW_t h0 hs _ hr
theorem p58 : (((prdW (wL (wR (wR (wL (wR (wL (wL (wL (wR (wR (wR (wR (bdyW Tryz.f41))))))))))))))).getD 7 0).testBit 1 = true := by kernel_rfl
theorem p32 : (((prdW (wL (wR (wR (wR (wR (wR (wL (wR (wR (wR (wL (wR (wL (wL (wL (wR (wR (wR (wR (bdyW Tryz.f41)))))))))))))))))))))).getD 9 0).testBit 1 = true := by kernel_rfl
structure Trl (hS h : H) (r tv rv : Nat) (nm tx : Bs) (ks : List XT) : Prop where
 f : But hS h (some r)
 rS : r < hS.next
 tv0 : hS.next ≤ tv
 rv0 : hS.next ≤ rv
 tv1 : tv < h.next
 rv1 : rv < h.next
 ne : tv ≠ rv
 rb : ∃ cs, h.mem.get rv = some (.c cs 63 true) ∧ cs.length = 3
 k : ∃ kv es, h.mem.get tv = some (.c [.s nm, .s tx, kv] 63 true) ∧ VecE h kv 63 3 encT es ∧ (∀ q, vblk kv = some q → hS.next ≤ q ∧ q < h.next ∧ q ≠ tv ∧ q ≠ rv) ∧ TrsA h (fun q => hS.next ≤ q ∧ q ≠ tv ∧ q ≠ rv ∧ vblk kv ≠ some q) ks es
theorem Trl.keep {hS h h' : H} {r tv rv : Nat} {nm tx : Bs} {ks : List XT} (T : Trl hS h r tv rv nm tx ks) (f : But h h' (some r)) : Trl hS h' r tv rv nm tx ks := by
 obtain ⟨f0, rS, a1, a2, a3, a4, ne, ⟨cs, b1, b2⟩, kv, es, c1, c2, c3, c4⟩ := T
 have n1 : some tv ≠ some r := fun e => by cases e; omega
 have n2 : some rv ≠ some r := fun e => by cases e; omega
 refine ⟨f0.trans f, rS, a1, a2, Nat.lt_of_lt_of_le a3 f.1, Nat.lt_of_lt_of_le a4 f.1, ne, ⟨cs, f.get a4 n2 b1, b2⟩, kv, es, f.get a3 n1 c1, c2.keep (fun q hq => (c3 q hq).2.1) f (.inl fun e => ?_), fun q hq => ?_, c4.keep ⟨f.1, fun q hq hN => f.2.1 q hq fun e => ?_⟩ fun q _ h => h⟩
 ·have := (c3 r e).1; omega
 ·have := c3 q hq
  exact ⟨this.1, Nat.lt_of_lt_of_le this.2.1 f.1, this.2.2⟩
 ·cases e; have := hN.1; omega
theorem Trl.text {hS h : H} {r tv rv : Nat} {nm tx : Bs} {ks : List XT} (T : Trl hS h r tv rv nm tx ks) (tx' : Bs) {κ : H → Prop} (k : ∀ h', But h h' (some tv) → Trl hS h' r tv rv nm tx' ks → κ h') : pw.s1 (.p tv 1) (.s tx') h κ := by
 obtain ⟨f0, rS, a1, a2, a3, a4, ne, ⟨cs, b1, b2⟩, kv, es, c1, c2, c3, c4⟩ := T
 refine s1_a c1 (by simp) rfl fun h1 hg f => k h1 f ?_
 have n2 : some rv ≠ some tv := fun e => by cases e; exact ne rfl
 refine ⟨f0.over f (.inr fun z e => by cases e; exact a1), rS, a1, a2, Nat.lt_of_lt_of_le a3 f.1, Nat.lt_of_lt_of_le a4 f.1, ne, ⟨cs, f.get a4 n2 b1, b2⟩, kv, es, hg, c2.keep (fun q hq => (c3 q hq).2.1) f (.inl fun e => (c3 tv e).2.2.1 rfl), fun q hq => ?_, c4.keep ⟨f.1, fun q hq hN => f.2.1 q hq fun e => ?_⟩ fun q _ h => h⟩
 ·have := c3 q hq
  exact ⟨this.1, Nat.lt_of_lt_of_le this.2.1 f.1, this.2.2⟩
 ·cases e; exact hN.2.1 rfl
theorem Trl.fin {hS h : H} {r tv rv : Nat} {nm tx : Bs} {ks : List XT} (T : Trl hS h r tv rv nm tx ks) {p : PS} {d : Int} (P : Prs h r p.1 p.2 d) {K : V → H → Prop}
  (k : ∀ h' e, Prs h' r p.1 p.2 d → But hS h' (some r) → TrA h' (fun q => hS.next ≤ q) (.node nm tx ks) e → K (.a (encT e)) h') :
  pw.ln 3 (.p tv 0) h fun v29 => pw.sn 3 (.p rv 0) v29 h fun h30 => pw.ln 3 (.p rv 0) h30 fun v31 => Bd h30 → K v31 h30 := by
 obtain ⟨f0, rS, a1, a2, a3, a4, ne, ⟨cs, b1, b2⟩, kv, es, c1, c2, c3, c4⟩ := T
 have hkv : oneV kv = true := by
  obtain ⟨_, ⟨rfl, _⟩ | ⟨_, _, _, _, rfl, _⟩⟩ := c2 <;> rfl
 rw [ln_w (sz := 3) c1 rfl]
 refine sn_w b1 (cs := [.s nm, .s tx, kv]) rfl rfl b2 (by show (true && (true && (oneV kv && true))) = true; rw [hkv]; rfl) fun h1 hg f => ?_
 rw [ln_w (sz := 3) hg rfl]
 intro _
 have nr : r < h.next := Nat.lt_of_lt_of_le rS f0.1
 refine k h1 (nm, tx, kv) (P.keep f nr (fun e => by cases e; omega)) (f0.over f (.inr fun z e => by cases e; exact a2)) ⟨rfl, rfl, es, c2.keep (fun q hq => (c3 q hq).2.1) f (.inl fun e => (c3 rv e).2.2.2 rfl), fun q hq => ⟨(c3 q hq).1, Nat.lt_of_lt_of_le (c3 q hq).2.1 f.1⟩, c4.keep ⟨f.1, fun q hq hN => f.2.1 q hq fun e => ?_⟩ fun q _ h => h.1⟩
 cases e; exact hN.2.2.1 rfl
end Go.Proofs.YtbkhielalbbopaaGreatDoor.Wb
