/- The abstract machine: its heaps only grow. -/
import Derived.Test.YtfkbofbdonmpfaaAm17
set_option linter.unusedSimpArgs false
set_option linter.unusedVariables false
set_option linter.unusedSectionVars false
set_option linter.unnecessarySimpa false
namespace Go.Am
open Go.Instr

theorem cond_some {α : Type} {b : Bool} {x : Option α} {v : α} (h : (bif b then x else none) = some v) : x = some v := by cases b <;> first | exact h | cases h
theorem cond_or {α : Type} {b : Bool} {x y : Option α} {v : α} (h : (bif b then x else y) = some v) : x = some v ∨ y = some v := by cases b <;> first | exact .inl h | exact .inr h

def Bd (h : H) : Prop := ∀ r b, h.mem.get r = some b → r < h.next

/-- The second heap comes behind the first. -/
def Gd (h h' : H) : Prop := h.next ≤ h'.next ∧ (Bd h → Bd h')

theorem Gd.refl (h : H) : Gd h h := ⟨Nat.le_refl _, id⟩
theorem Gd.trans {a b c : H} (h : Gd a b) (k : Gd b c) : Gd a c := ⟨Nat.le_trans h.1 k.1, k.2 ∘ h.2⟩

theorem gd_write {h : H} {r : Nat} {b0 b1 : B} (hr : h.mem.get r = some b0) : Gd h ⟨h.next, h.mem.put r (some b1)⟩ := by
  refine ⟨Nat.le_refl _, fun k r' b h' => ?_⟩
  simp only [T.get_put] at h'
  by_cases e : r = r'
  · subst e; exact k _ _ hr
  · rw [if_neg e] at h'; exact k _ _ h'

theorem gd_new {h : H} {m : T B} {b : B} (hm : ∀ r b, m.get r = some b → h.mem.get r = some b) : Gd h ⟨h.next + 1, m.put h.next (some b)⟩ := by
  refine ⟨Nat.le_succ _, fun k r' b h' => ?_⟩
  simp only [T.get_put] at h'
  by_cases e : h.next = r'
  · subst e; exact Nat.lt_succ_self _
  · rw [if_neg e] at h'; exact Nat.lt_succ_of_lt (k _ _ (hm _ _ h'))

theorem gd_kill {m : T B} {r r' : Nat} {b : B} (h : (m.put r none).get r' = some b) : m.get r' = some b := by
  rw [T.get_put] at h
  by_cases e : r = r'
  · rw [if_pos e] at h; cases h
  · rwa [if_neg e] at h

theorem gd_store {h h' : H} {r o : Nat} {vs : List V} (hs : storeB h r o vs = some h') : Gd h h' := by
  unfold storeB at hs
  cases hr : h.mem.get r with
  | none => simp [hr] at hs
  | some b =>
    cases b <;> simp only [hr, reduceCtorEq] at hs
    rename_i l ty own
    cases hb : (own && vs.all oneV) with
    | false => rw [hb] at hs; cases hs
    | true =>
      rw [hb] at hs; simp only [cond_true] at hs
      cases ho : overAt l o vs with
      | none => simp [ho] at hs
      | some l' =>
        simp only [ho, T.seq_eq, Option.some.injEq] at hs; subst hs
        exact gd_write hr

theorem gd_appA {h h' : H} {el : TypeId} {ie : TI} {s v : V} {n : Nat} {cs : List V} (hA : appA h el ie s n cs = some (v, h')) : Gd h h' := by
  have new1 : ∀ b, Gd h ⟨h.next + 1, h.mem.put h.next (some b)⟩ := fun b => gd_new fun _ _ h => h
  have new2 : ∀ r b, Gd h ⟨h.next + 1, (h.mem.put r none).put h.next (some b)⟩ := fun r b => gd_new fun _ _ h => gd_kill h
  unfold appA at hA
  cases hn0 : Nat.beq n 0 with
  | true =>
    rw [hn0] at hA; simp only [cond_true] at hA
    cases s <;> try (cases hA; done)
    case ns => cases hA; exact Gd.refl _
    case se => cases hA; exact Gd.refl _
    case ze => cases hA; exact Gd.refl _
    case sl r o len cap e =>
      simp only at hA
      cases hb : Nat.ble len cap <;> rw [hb] at hA <;> cases hA
      exact Gd.refl _
  | false =>
    rw [hn0] at hA; simp only [cond_false] at hA
    cases s <;> try (cases hA; done)
    case ns =>
      simp only at hA
      cases hb : Nat.ble (n * ie.by_) most && Nat.ble n most <;> rw [hb] at hA
      · cases hA
      · simp only [cond_true, newB, fN_eq, T.seq_eq, Option.some.injEq, Prod.mk.injEq] at hA
        obtain ⟨_, rfl⟩ := hA; exact new1 _
    case ze =>
      simp only at hA
      cases hb : Nat.ble (n * ie.by_) most && Nat.ble n most <;> rw [hb] at hA
      · cases hA
      · simp only [cond_true, newB, fN_eq, T.seq_eq, Option.some.injEq, Prod.mk.injEq] at hA
        obtain ⟨_, rfl⟩ := hA; exact new1 _
    case se r o' o =>
      simp only at hA
      cases hr : h.mem.get r with
      | none => simp [hr] at hA
      | some b =>
        cases b <;> simp only [hr, reduceCtorEq] at hA
        rename_i l ty1 own
        cases hb : own && Nat.beq l.length o && Nat.beq ty1 el && Nat.beq cs.length (n * ie.sz) && cs.all oneV && Nat.ble (n * ie.by_) most && Nat.ble n most <;> rw [hb] at hA
        · cases hA
        · simp only [cond_true, newB, fN_eq, T.seq_eq, Option.some.injEq, Prod.mk.injEq] at hA
          obtain ⟨_, rfl⟩ := hA; exact new2 _ _
    case sl r o len cap e =>
      simp only at hA
      cases hfit : Nat.ble (len + n) cap && Nat.ble (n * ie.by_) most with
      | true =>
        rw [hfit] at hA; simp only [cond_true] at hA
        cases hst : storeB h r (o + len * ie.sz) cs with
        | none => simp [hst] at hA
        | some h1' =>
          simp only [hst, Option.some.injEq, Prod.mk.injEq] at hA
          obtain ⟨_, rfl⟩ := hA
          exact gd_store hst
      | false =>
        rw [hfit] at hA; simp only [cond_false] at hA
        cases hr : h.mem.get r with
        | none => simp [hr] at hA
        | some b =>
          cases b <;> simp only [hr, reduceCtorEq] at hA
          rename_i l ty1 own
          cases hsub : sub l o (len * ie.sz) with
          | none => simp [hsub] at hA
          | some old =>
            simp only [hsub] at hA
            cases hb : Nat.ble ((len + n) * ie.by_) most && Nat.ble (len + n) most <;> rw [hb] at hA
            · cases hA
            · simp only [cond_true] at hA
              cases e with
              | false =>
                simp only [cond_false, newB, fN_eq, T.seq_eq, Option.some.injEq, Prod.mk.injEq] at hA
                obtain ⟨_, rfl⟩ := hA; exact new1 _
              | true =>
                simp only [cond_true] at hA
                cases hb' : own && Nat.ble len cap && Nat.beq l.length (o + cap * ie.sz) && Nat.beq ty1 el && Nat.beq cs.length (n * ie.sz) && cs.all oneV <;> rw [hb'] at hA
                · cases hA
                · simp only [cond_true, newB, fN_eq, T.seq_eq, Option.some.injEq, Prod.mk.injEq] at hA
                  obtain ⟨_, rfl⟩ := hA; exact new2 _ _

section
variable {P : Program} {h h' : H}

theorem gd_opH {e : Env} {o : Oper} {v : V} (hh : opH (mkX P) e h o = some (v, h')) : Gd h h' := by
  unfold opH at hh
  cases ho : o.op <;> simp only [ho] at hh <;> try (cases hh; done)
  case store t u x =>
    replace hh := ti_ok' hh
    obtain ⟨i, k, hh⟩ := hh
    cases huv : ev e u <;> simp only [huv, reduceCtorEq] at hh
    case p r o' =>
    cases hb : Nat.beq (cellsOfV (ev e x)).length i.sz <;> rw [hb] at hh
    · cases hh
    · simp only [cond_true] at hh
      cases hst : storeB h r o' (cellsOfV (ev e x)) with
      | none => simp [hst] at hh
      | some h1 =>
        simp only [hst, Option.some.injEq, Prod.mk.injEq] at hh
        obtain ⟨rfl, rfl⟩ := hh
        exact gd_store hst
  case next u b =>
    unfold nextH at hh
    cases b <;> try (cases hh; done)
    simp only [cond_true] at hh
    generalize hu : ev e u = u' at hh
    cases u' <;> try (cases hh; done)
    case p r o' =>
    cases o' <;> try (cases hh; done)
    simp only at hh
    cases hr : h.mem.get r with
    | none => simp [hr] at hh
    | some b =>
      cases b <;> simp only [hr, reduceCtorEq] at hh
      rename_i s pos
      cases hb : Nat.blt pos s.length <;> rw [hb] at hh
      · cases hh; exact Gd.refl _
      · simp only [cond_true, Option.some.injEq, Prod.mk.injEq] at hh
        obtain ⟨rfl, rfl⟩ := hh
        exact gd_write hr
  case mapUpdate t m key x =>
    replace hh := ti_ok' hh
    obtain ⟨i, k, hh⟩ := hh
    cases hki : i.k <;> simp only [hki, reduceCtorEq] at hh
    case mp kt et =>
    replace hh := ti_ok' hh
    obtain ⟨kti, kk, hh⟩ := hh
    cases hmv : ev e m <;> try (rw [hmv] at hh; cases hh; done)
    case m r =>
    rw [hmv] at hh
    simp only at hh
    cases hr : h.mem.get r with
    | none => simp [hr] at hh
    | some b0 =>
      cases b0 <;> simp only [hr, reduceCtorEq] at hh
      split at hh
      · cases hh; exact gd_write hr
      · cases hh; exact gd_write hr
      · cases hh
  case call c =>
    obtain ⟨callee, args, argTypes⟩ := c
    simp only [builtinH] at hh
    cases callee with
    | value _ => simp at hh
    | invoke _ _ => simp at hh
    | builtin b =>
      simp only at hh
      cases b <;> simp only [reduceCtorEq] at hh
      case append =>
        split at hh
        · unfold appendH at hh
          replace hh := ti_ok' hh
          obtain ⟨i, k, hh⟩ := hh
          cases hki : i.k <;> simp only [hki, reduceCtorEq] at hh
          replace hh := ti_ok' hh
          obtain ⟨ie, ke, hh⟩ := hh
          replace hh := ti_ok' hh
          obtain ⟨i', k', hh⟩ := hh
          split at hh
          · exact gd_appA (cond_some hh)
          · cases hh
          · split at hh
            · split at hh
              · exact gd_appA hh
              · cases hh
            · cases hh
        · cases hh
      case copy =>
        split at hh
        · unfold copyH at hh
          replace hh := ti_ok' hh
          obtain ⟨i, k, hh⟩ := hh
          cases hki : i.k <;> simp only [hki, reduceCtorEq] at hh
          replace hh := ti_ok' hh
          obtain ⟨ie, ke, hh⟩ := hh
          split at hh
          · split at hh
            · split at hh
              · cases hh; exact Gd.refl _
              · cases hh; exact Gd.refl _
              · cases hh; exact Gd.refl _
              · rcases cond_or hh with hh | hh
                · cases hh; exact Gd.refl _
                · split at hh
                  · cases hh; exact gd_store (by assumption)
                  · cases hh
              · cases hh
            · cases hh
          · cases hh
        · cases hh
      case clear =>
        split at hh
        · unfold clearH at hh
          replace hh := ti_ok' hh
          obtain ⟨i, k, hh⟩ := hh
          split at hh
          · cases hh; exact Gd.refl _
          · cases hh; exact Gd.refl _
          · cases hh; exact Gd.refl _
          · rcases cond_or hh with hh | hh
            · cases hh; exact Gd.refl _
            · replace hh := ti_ok' hh
              obtain ⟨ie, ke, hh⟩ := hh
              split at hh
              · cases hh; exact gd_store (by assumption)
              · cases hh
          · cases hh
        · cases hh
      case delete =>
        split at hh
        · unfold deleteH at hh
          replace hh := ti_ok' hh
          obtain ⟨i, k, hh⟩ := hh
          cases hki : i.k <;> simp only [hki, reduceCtorEq] at hh
          replace hh := ti_ok' hh
          obtain ⟨kti, kk, hh⟩ := hh
          split at hh
          · rename_i r _
            cases hr : h.mem.get r with
            | none => simp [hr] at hh
            | some b0 =>
              cases b0 <;> simp only [hr, reduceCtorEq] at hh
              split at hh
              · cases hh; exact gd_write hr
              · cases hh; exact Gd.refl _
              · cases hh
          · cases hh
        · cases hh

def CallGd (call : FuncId → List V → H → Option (V × H)) : Prop := ∀ f args h v h', call f args h = some (v, h') → Gd h h'

theorem gd_op1 {call : FuncId → List V → H → Option (V × H)} (C : CallGd call) {e : Env} {o : Oper} {v : V} (hh : op1 (mkX P) call e h o = some (v, h')) : Gd h h' := by
  unfold op1 at hh
  split at hh
  · split at hh <;> cases hh; exact Gd.refl _
  · split at hh <;> cases hh; exact Gd.refl _
  · split at hh
    · simp only [newB, fN_eq, T.seq_eq, Option.some.injEq, Prod.mk.injEq] at hh
      obtain ⟨_, rfl⟩ := hh
      exact gd_new fun _ _ h => h
    · cases hh
  · exact gd_opH hh
  · split at hh
    · split at hh
      · split at hh
        · exact C _ _ _ _ _ hh
        · cases hh
      · cases hh
    · cases hh

theorem gd_seqR {call : FuncId → List V → H → Option (V × H)} (C : CallGd call) {ops : List Oper} : ∀ (l : List Oper) {e e' : Env} {h h' : H}, seqR (mkX P) call ops l e h = some (e', h') → Gd h h'
  | [], e, e', h, h', hh => by simp only [seqR, Option.some.injEq, Prod.mk.injEq] at hh; obtain ⟨_, rfl⟩ := hh; exact Gd.refl _
  | o :: l, e, e', h, h', hh => by
    simp only [seqR] at hh
    cases hw : wantA e ops o <;> rw [hw] at hh
    · simp only [cond_false, T.seq_eq] at hh
      exact gd_seqR C l hh
    · simp only [cond_true] at hh
      split at hh
      · rename_i v h1 ho
        simp only [fV_eq, T.seq_eq] at hh
        exact (gd_op1 C ho).trans (gd_seqR C l hh)
      · cases hh

theorem gd_drawR {call : FuncId → List V → H → Option (V × H)} (C : CallGd call) {ops : List Oper} : ∀ (l : List Oper) {ix : Nat} {e e' : Env} {h h' : H} {en en' : T B} {rs rs' : List Rec} {hs hs' : List (Nat × H)}, drawR (mkX P) call ops l ix e h en rs hs = some (e', h', en', rs', hs') → Gd h h'
  | [], ix, e, e', h, h', en, en', rs, rs', hs, hs', hh => by simp only [drawR, Option.some.injEq, Prod.mk.injEq] at hh; obtain ⟨_, rfl, _⟩ := hh; exact Gd.refl _
  | o :: l, ix, e, e', h, h', en, en', rs, rs', hs, hs', hh => by
    simp only [drawR] at hh
    cases hw : wantA e ops o <;> rw [hw] at hh
    · simp only [cond_false, T.seq_eq] at hh
      exact gd_drawR C l hh
    · simp only [cond_true] at hh
      split at hh
      · rename_i v h1 ho
        simp only [fV_eq, T.seq_eq] at hh
        split at hh <;> exact (gd_op1 C ho).trans (gd_drawR C l hh)
      · cases hh

theorem gd_region {call : FuncId → List V → H → Option (V × H)} (C : CallGd call) {ops : List Oper} {d : Bool} {e e' : Env} {x : Ex} (hh : region (mkX P) call ops d e h = some (x, e', h')) : Gd h h' := by
  unfold region at hh
  cases d
  · simp only [cond_false] at hh
    split at hh
    · cases hh; exact gd_seqR C _ (by assumption)
    · cases hh
  · simp only [cond_true] at hh
    split at hh
    · rename_i e1 h1 en1 rs1 hs1 hd
      generalize (rs1.all fun r => stands (mkX P) (preds ops []) en1 h r none hs1) = bb at hh
      cases bb
      · cases hh
      · cases hh; exact gd_drawR C _ hd
    · cases hh

theorem gd_loopN {body : Env → H → Option (Ex × Env × H)} (hb : ∀ {e e' h h' x}, body e h = some (x, e', h') → Gd h h') : ∀ (k : Nat) {e e' : Env} {h h' : H} {x : Ex}, loopN body k e h = some (x, e', h') → Gd h h'
  | 0, e, e', h, h', x, hh => by cases hh
  | k + 1, e, e', h, h', x, hh => by
    simp only [loopN] at hh
    split at hh
    · rename_i h1; exact (hb h1).trans (gd_loopN hb k hh)
    · rename_i h1; cases hh; exact hb h1
    · rename_i h1; cases hh; exact hb h1
    · cases hh

theorem gd_code {call : FuncId → List V → H → Option (V × H)} (C : CallGd call) (k : Nat) : ∀ (c : Code) {e e' : Env} {h h' : H} {x : Ex}, code (mkX P) call k c e h = some (x, e', h') → Gd h h' := by
  intro c
  induction c with
  | skip => intro e e' h h' x hh; cases hh; exact Gd.refl _
  | region id ops d => intro e e' h h' x hh; exact gd_region C hh
  | seq a b iha ihb =>
    intro e e' h h' x hh
    simp only [code] at hh
    split at hh
    · rename_i h1; exact (iha h1).trans (ihb hh)
    · rename_i h1; cases hh; exact iha h1
    · rename_i h1; cases hh; exact iha h1
    · cases hh
  | cond c a b iha ihb =>
    intro e e' h h' x hh
    simp only [code] at hh
    split at hh
    · exact iha hh
    · exact ihb hh
    · cases hh
  | block id c ih =>
    intro e e' h h' x hh
    simp only [code] at hh
    split at hh
    · rename_i h1; cases hh; exact ih h1
    · rename_i id' e1 h1 hc
      generalize Nat.beq id' id = bb at hh
      cases bb <;> cases hh <;> exact ih hc
    · rename_i h1; cases hh; exact ih h1
    · cases hh
  | loop c ih => intro e e' h h' x hh; exact gd_loopN ih k hh
  | exit id => intro e e' h h' x hh; cases hh; exact Gd.refl _
  | ret => intro e e' h h' x hh; cases hh; exact Gd.refl _
  | _ => intro e e' h h' x hh; cases hh

theorem gd_sem (k : Nat) : ∀ n, CallGd (sem (mkX P) k n)
  | 0, f, args, h, v, h', hh => by cases hh
  | n + 1, f, args, h, v, h', hh => by
    simp only [sem] at hh
    split at hh
    · cases hh
    · replace hh := cond_some hh
      split at hh
      · cases hh
      · split at hh
        · rename_i hc
          split at hh
          · cases hh; exact gd_code (gd_sem k n) k _ hc
          · cases hh
        · rename_i hc
          split at hh
          · cases hh; exact gd_code (gd_sem k n) k _ hc
          · cases hh
        · cases hh

end
end Go.Am
