/- The abstract machine: a region in any order, from its first operation to its last. -/
import Derived.Test.YtfkbofbdonmpfaaAm24
set_option linter.unusedSimpArgs false
set_option linter.unusedVariables false
set_option linter.unusedSectionVars false
set_option linter.unnecessarySimpa false
namespace Go.Am
open Go.Instr

section
variable {P : Program} {base : Nat} {call : FuncId → List V → H → Option (V × H)} {ops : Array Oper} {S : Nat → St} {v : Nat → V} {rs : List Rec} {nt : Nat} {j0 j : Inj} {w0 w : World} {n0 m : Nat} {d0 : List Deferred} {L : List Nat} {a : Act}

theorem Inv.same_heavies (I : Inv P base ops S v j0 w0 n0 d0 L m j a w) {i : Nat} {o : Oper} (N1 : Next1 ops L i o) (hn : ¬ (wantA (S i).e ops.toList o = true ∧ heavyC (mkX P) o = true)) :
    ∀ k o, ops[k]? = some o → wantA (S k).e ops.toList o = true → heavyC (mkX P) o = true → (k ∈ i :: L ↔ k < m) := by
  intro k o' ho hw hh
  rw [← I.heavies k o' ho hw hh, List.mem_cons]
  constructor
  · rintro (rfl | h)
    · rw [N1.ho] at ho; cases ho; exact absurd ⟨hw, hh⟩ hn
    · exact h
  · exact .inr

theorem Inv.same_news (I : Inv P base ops S v j0 w0 n0 d0 L m j a w) (i : Nat) : ∀ k o b v', ops[k]? = some o → k ∉ i :: L → wantA (S k).e ops.toList o = true → cls (mkX P) o = .n → opN (mkX P) (S k).e (S k).h.next o = some (b, v') → viewOf (hbOf (S 0).h (S m).hs) (S ops.size).en (S k).h.next = some b :=
  fun k o b v' h1 h2 => I.news k o b v' h1 (fun h => h2 (by simp [h]))

theorem Inv.again (F : Fix P base call ops S v rs nt) (I : Inv P base ops S v j0 w0 n0 d0 L m j a w) {i : Nat} {o : Oper} (N1 : Next1 ops L i o) (hw : wantA (S i).e ops.toList o = true) (hc : cls (mkX P) o = .r) :
    opR (mkX P) (S i).e (viewOf (hbOf (S 0).h (S m).hs) (S ops.size).en) o = some (v i) := by
  have ho' : ops.toList[i]? = some o := by rw [Array.getElem?_toList]; exact N1.ho
  have hst := F.st _ ((F.T.step i o ho').r hw hc).2.2
  obtain ⟨rest, e1, e2⟩ := F.T.hs_split (ops.size - m) m (by have := I.m_le; simp; omega)
  rw [show m + (ops.size - m) = ops.size by have := I.m_le; omega] at e1 e2
  rw [e1] at hst
  refine again_spec rest (S m).hs none hst (fun p hp => ?_) (fun k hk => ?_)
  · obtain ⟨rest0, f1, f2⟩ := F.T.hs_split m 0 (by have := I.m_le; simp; omega)
    rw [Nat.zero_add, F.T.hs0, List.append_nil] at f1
    rw [f1] at hp
    obtain ⟨_, g2, o2, g3, g4, g5⟩ := f2 p (List.mem_of_mem_head? hp)
    have hin : p.1 ∈ L := (I.heavies p.1 o2 (by rw [← Array.getElem?_toList]; exact g3) g4 g5).2 (by omega)
    cases hb : ((preds ops.toList []).getD p.1 0).testBit i with
    | false => rfl
    | true => exact absurd (I.pc p.1 hin i hb) N1.hi
  · cases hl : rest.getLast? with
    | none => rw [hl] at hk; cases hk
    | some p =>
      rw [hl] at hk
      simp only [Option.some.injEq] at hk
      subst hk
      obtain ⟨g1, _, o2, g3, g4, g5⟩ := e2 p (List.mem_of_getLast? hl)
      have hout : ¬ p.1 ∈ L := fun h => by
        have := (I.heavies p.1 o2 (by rw [← Array.getElem?_toList]; exact g3) g4 g5).1 h
        omega
      cases hb : ((preds ops.toList []).getD i 0).testBit p.1 with
      | false => rfl
      | true =>
        rcases List.mem_cons.1 (I.pi N1 p.1 hb) with e | e
        · rw [e] at g3
          rw [ho'] at g3; cases g3
          simp [heavyC, hc] at g5
        · exact absurd e hout

theorem Inv.heavy (F : Fix P base call ops S v rs nt) (hn : nt ≤ n0) (I : Inv P base ops S v j0 w0 n0 d0 L m j a w) {i : Nat} {o : Oper} (N1 : Next1 ops L i o) (hw : wantA (S i).e ops.toList o = true) (hc : heavyC (mkX P) o = true)
    {Q : Exit → Act → World → Prop} {K : Act → World → Prop} (k : ∀ m' j' a' w', Inv P base ops S v j0 w0 n0 d0 (i :: L) m' j' a' w' → K a' w') : o.wp P a w K Q := by
  have ho' : ops.toList[i]? = some o := by rw [Array.getElem?_toList]; exact N1.ho
  have hlt := (Array.getElem?_eq_some_iff.1 N1.ho).1
  have f := F.T.step i o ho'
  have hok := F.ok o (List.mem_of_getElem? ho')
  have hcl : ∀ (k : Nat) (ok : Oper), ops[k]? = some ok → heavyC (mkX P) ok = true → clash (foot (mkX P) ops.toList ok) (foot (mkX P) ops.toList o) = true := by
    intro k ok _ hk
    unfold clash foot
    simp [hk, hc]
  -- the place
  have hmi : m ≤ i := by
    by_cases h : m ≤ i
    · exact h
    · exact absurd ((I.heavies i o N1.ho hw hc).2 (by omega)) N1.hi
  have hsame : (S i).hs = (S m).hs := by
    have := F.T.hs_const (i - m) m (by simp; omega) (fun k ok h1 h2 h3 h4 => by
      have hk : ops[k]? = some ok := by rw [← Array.getElem?_toList]; exact h3
      have hin := (I.behind F N1 hk (hcl k ok hk h4.2) (by omega)).2 (by omega)
      have := (I.heavies k ok hk h4.1 h4.2).1 hin
      omega)
    rwa [show m + (i - m) = i by omega] at this
  have hbd : Bd (S i).h := F.T.bd F.G F.bd (by simp; omega)
  have hview : ∀ r, r < (S i).h.next → (S i).h.mem.get r = viewOf (hbOf (S 0).h (S m).hs) (S ops.size).en r := by
    intro r hr
    have := F.T.view F.G (k := i) (by simp; omega) hr
    rw [hsame] at this
    simpa using this
  have R : HRel P base j (S i).h w := I.step.hg.hrel hbd hview
  have F1 := I.fresh i hlt N1.hi
  refine op1_sim F.C (f.yes hw) R ((I.looked F N1).seen hok.1) F1 fun j' v' w' s1 s2 => ?_
  have hhs : (S (i + 1)).hs = (i, (S (i + 1)).h) :: (S i).hs := (f.h hw hc).2
  have g1 : ∀ r, r < (S (i + 1)).h.next → viewOf (hbOf (S 0).h (S (i + 1)).hs) (S ops.size).en r = (S (i + 1)).h.mem.get r := by
    intro r hr; rw [hhs]; exact viewOf_lt hr
  have hbn : (hbOf (S 0).h (S m).hs).next ≤ (S i).h.next := by
    have := (F.T.view_now i (by simp; omega)).1
    rwa [hsame] at this
  have mono1 := s1.mono
  have g2 : ∀ r, (S (i + 1)).h.next ≤ r → viewOf (hbOf (S 0).h (S (i + 1)).hs) (S ops.size).en r = viewOf (hbOf (S 0).h (S m).hs) (S ops.size).en r := by
    intro r hr
    rw [hhs, viewOf_ge (hb := hbOf (S 0).h ((i, (S (i + 1)).h) :: (S i).hs)) hr, viewOf_ge (by omega)]
  refine k (i + 1) j' _ w' (I.next F hn N1 (s1.ext F1) s2 s1.out (by omega) (fun k ok hk hwk hhk => ?_) (fun k ok b v2 hk hkn hwk hck hop => ?_) ?_)
  · rw [List.mem_cons]
    by_cases e : k = i
    · subst e; simp
    · rw [I.behind F N1 hk (hcl k ok hk hhk) e]
      omega
  · have hne : k ≠ i := fun e => hkn (by simp [e])
    have hnl : k ∉ L := fun e => hkn (by simp [e])
    have hlt2 := (Array.getElem?_eq_some_iff.1 hk).1
    have hold := I.news k ok b v2 hk hnl hwk hck hop
    by_cases hki : k < i
    · obtain ⟨b2, _, e2⟩ := F.T.cls_op (i := k) (by rw [Array.getElem?_toList]; exact hk) hwk hck
      have m1 := F.T.mono F.G (i := k + 1) (k := i) (by omega) (by simp; omega)
      rw [e2] at m1
      simp only at m1
      have hnone : j (S k).h.next = none := I.fresh k hlt2 hnl _ (Nat.le_refl _) (by rw [e2]; exact Nat.lt_succ_self _)
      rw [g1 _ (by omega), s1.keep _ (by omega) hnone, hview _ (by omega)]
      exact hold
    · have m1 := F.T.mono F.G (i := i + 1) (k := k) (by omega) (by simp; omega)
      rw [g2 _ m1]
      exact hold
  · refine I.step.heavy hbd hview s1 F1 (F.T.mono F.G (i := 0) (k := i) (by omega) (by simp; omega)) ?_ g1 g2
    have := F.T.mono F.G (i := i + 1) (k := ops.size) (by omega) (by simp)
    exact this

theorem op_step (F : Fix P base call ops S v rs nt) (hn : nt ≤ n0) (I : Inv P base ops S v j0 w0 n0 d0 L m j a w) {i : Nat} {o : Oper} (N1 : Next1 ops L i o)
    {Q : Exit → Act → World → Prop} {K : Act → World → Prop} (k : ∀ m' j' a' w', Inv P base ops S v j0 w0 n0 d0 (i :: L) m' j' a' w' → K a' w') : wpOp P ops Q i K a w := by
  have ho' : ops.toList[i]? = some o := by rw [Array.getElem?_toList]; exact N1.ho
  have hlt := (Array.getElem?_eq_some_iff.1 N1.ho).1
  have f := F.T.step i o ho'
  have hok := F.ok o (List.mem_of_getElem? ho')
  have hl := I.looked F N1
  have hseen := hl.seen hok.1
  unfold wpOp
  rw [N1.ho]
  simp only
  rw [hl.wants]
  cases hw : wantA (S i).e ops.toList o with
  | false =>
    simp only [Bool.false_eq_true, if_false]
    obtain ⟨e1, _⟩ := f.no hw
    exact k m j _ w (I.next F hn N1 (Ext.refl j) (by rw [e1]; rfl) (fun _ _ => rfl) I.m_le (I.same_heavies N1 (by rw [hw]; simp)) (I.same_news i) I.step)
  | true =>
    rw [if_pos rfl]
    left
    have hy := f.yes hw
    unfold op1 at hy
    cases hc : cls (mkX P) o with
    | p =>
      rw [hc] at hy
      simp only at hy
      split at hy
      · rename_i v1 hp
        simp only [Option.some.injEq, Prod.mk.injEq] at hy
        obtain ⟨rfl, _⟩ := hy
        obtain ⟨v', h1, h2⟩ := opP_sim w hp hseen
        unfold Oper.wp
        rw [h2]
        exact k m j _ w (I.next F hn N1 (Ext.refl j) h1 (fun _ _ => rfl) I.m_le (I.same_heavies N1 (by simp [heavyC, hc])) (I.same_news i) I.step)
      · cases hy
    | r =>
      obtain ⟨v', w', h1, h2, h3, h4⟩ := opR_sim (I.again F N1 hw hc) I.step.hg.blk hseen
      unfold Oper.wp
      rw [h2]
      exact k m j _ w' (I.next F hn N1 (Ext.refl j) h1 (fun _ _ => rfl) I.m_le (I.same_heavies N1 (by simp [heavyC, hc])) (I.same_news i) (I.step.soft h3 h4))
    | n =>
      obtain ⟨b, hp, he⟩ := F.T.cls_op ho' hw hc
      obtain ⟨v', w', ee, h1, h2⟩ := opN_sim (j := j) hp hseen I.step.hg.base
      have hf : j (S i).h.next = none := I.fresh i hlt N1.hi _ (Nat.le_refl _) (by rw [he]; exact Nat.lt_succ_self _)
      obtain ⟨s1, s2⟩ := I.step.alloc h2 (I.news i o b (v i) N1.ho N1.hi hw hc hp) hf (F.T.mono F.G (i := 0) (k := i) (by omega) (by simp; omega)) (by
        have := F.T.mono F.G (i := i + 1) (k := ops.size) (by omega) (by simp)
        rw [he] at this
        exact this)
      unfold Oper.wp
      rw [h1]
      refine k m _ _ w' (I.next F hn N1 (upd_ext hf) s2 (fun r hr => upd_other ?_) I.m_le (I.same_heavies N1 (by simp [heavyC, hc])) (I.same_news i) s1)
      rw [he] at hr
      simp only at hr
      omega
    | h => exact I.heavy F hn N1 hw (by simp [heavyC, hc]) k
    | call => exact I.heavy F hn N1 hw (by simp [heavyC, hc]) k

end
end Go.Am
