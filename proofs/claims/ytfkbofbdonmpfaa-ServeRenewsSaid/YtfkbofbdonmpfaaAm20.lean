/- The abstract machine: a region in the order of the text. -/
import Derived.Test.YtfkbofbdonmpfaaAm19
import Derived.Tactics
set_option linter.unusedSimpArgs false
set_option linter.unusedVariables false
set_option linter.unusedSectionVars false
set_option linter.unnecessarySimpa false
namespace Go.Am
open Go.Instr

section
variable {P : Program} {j : Inj} {base : Nat} {h h' : H} {w : World}

theorem gv_put (e : Env) (d : Nat) (v : V) (t : Nat) : gv (e.put d (some v)) t = if d = t then v else gv e t := by
  simp only [gv, T.get_put]
  by_cases h : d = t <;> simp [h]

theorem gv_putD (e : Env) (d : Option Nat) (v : V) (t : Nat) : gv (putD e d v) t = if d = some t then v else gv e t := by
  cases d with
  | none => simp [putD]
  | some d => simp [putD, gv_put]

theorem put_getD (a : Act) (d : Option Tmp) (v : Value) (t : Nat) (hd : ∀ x, d = some x → x < a.tmps.size) : (a.put d v).tmps.getD t undef = if d = some t then v else a.tmps.getD t undef := by
  cases d with
  | none => simp [Act.put]
  | some x =>
    have hx := hd x rfl
    simp only [Act.put, Array.getD_eq_getD_getElem?, Array.getElem?_setIfInBounds]
    by_cases e : x = t
    · subst e; simp [hx]
    · simp [e]

theorem put_size (a : Act) (d : Option Tmp) (v : Value) : (a.put d v).tmps.size = a.tmps.size := by cases d <;> simp [Act.put]
theorem put_defers (a : Act) (d : Option Tmp) (v : Value) : (a.put d v).defers = a.defers := by cases d <;> simp [Act.put]

theorem ERel.ext {j' : Inj} {e : Env} {ts : Array Value} (h : ERel j e ts) (x : Ext j j') : ERel j' e ts := fun t => ren_ext x _ (h t)

theorem ERel.put {e : Env} {a : Act} {d : Option Nat} {v : V} {v' : Value} (h : ERel j e a.tmps) (hv : ren j v = some v') (hd : ∀ x, d = some x → x < a.tmps.size) : ERel j (putD e d v) (a.put d v').tmps := by
  intro t
  rw [gv_putD, put_getD a d v' t hd]
  by_cases e : d = some t
  · rw [if_pos e, if_pos e]; exact hv
  · rw [if_neg e, if_neg e]; exact h t

def Looked (j : Inj) (e : Env) (a : Act) (ops : List Oper) (o : Oper) : Prop := ∀ t ∈ looks ops o, ren j (gv e t) = some (a.tmps.getD t undef)

theorem tmpsOf_mem {t : Nat} : ∀ (l : List Operand) (acc : List Nat), (.tmp t ∈ l ∨ t ∈ acc) → t ∈ tmpsOf l acc
  | [], acc, h => by simpa [tmpsOf] using h
  | x :: l, acc, h => by
    cases x with
    | tmp u =>
      simp only [tmpsOf, List.mem_cons]
      rcases h with h | h
      · rcases List.mem_cons.1 h with h | h
        · left; cases h; rfl
        · right; exact tmpsOf_mem l acc (.inl h)
      · right; exact tmpsOf_mem l acc (.inr h)
    | const v => simp only [tmpsOf]; exact tmpsOf_mem l acc (h.imp (fun h => by simpa using h) id)
    | global v => simp only [tmpsOf]; exact tmpsOf_mem l acc (h.imp (fun h => by simpa using h) id)
    | func v => simp only [tmpsOf]; exact tmpsOf_mem l acc (h.imp (fun h => by simpa using h) id)

theorem Looked.seen {e : Env} {a : Act} {ops : List Oper} {o : Oper} (h : Looked j e a ops o) (ok : opdsOk o = true) : Seen j e a o := by
  intro x hx
  unfold opdsOk at ok
  have hok := List.all_eq_true.1 ok x hx
  cases x with
  | tmp t => exact h t (tmpsOf_mem _ _ (.inl hx))
  | const v => exact ofVal_ok j 8 v hok
  | global g => simp [opdOk] at hok
  | func f => simp [ev, Act.eval, ren, rens]

theorem ERel.looked {e : Env} {a : Act} (h : ERel j e a.tmps) (ops : List Oper) (o : Oper) : Looked j e a ops o := fun t _ => h t

def asB : V → Option Bool
  | .b w => some w
  | _ => none
def asB' : Value → Option Bool
  | .bool b => some b
  | _ => none

theorem undef_b {v : V} {v' : Value} (h : ren j v = some v') : asB v = asB' v' := by
  cases v <;> simp only [ren, Option.some.injEq, Option.map_eq_some_iff] at h
  case b => subst h; rfl
  case i => subst h; rfl
  case s => subst h; rfl
  case np => subst h; rfl
  case ns => subst h; rfl
  case nm => subst h; rfl
  case nf => subst h; rfl
  case ni => subst h; rfl
  all_goals (obtain ⟨_, _, rfl⟩ := h; rfl)

theorem Looked.wants {e : Env} {a : Act} {ops : Array Oper} {o : Oper} (h : Looked j e a ops.toList o) : Region.wanted o (yielded ops a.tmps) = wantA e ops.toList o := by
  unfold wantA Region.wanted
  cases hg : o.guard with
  | none => rfl
  | some p =>
    obtain ⟨g, wn⟩ := p
    have hy : yieldA e ops.toList g = yielded ops a.tmps g := by
      unfold yieldA yielded
      rw [Array.getElem?_toList]
      cases ho : ops[g]? with
      | none => rfl
      | some q =>
        simp only [Option.bind_some]
        cases hd : q.dst with
        | none => rfl
        | some d =>
          have := h d (tmpsOf_mem _ _ (.inr (by simp [hg, ho, hd])))
          have h2 := undef_b this
          simp only [Option.bind_some]
          cases hq : a.tmps[d]? with
          | none =>
            have : a.tmps.getD d undef = undef := by simp [Array.getD_eq_getD_getElem?, hq]
            rw [this] at h2
            show asB (gv e d) = none
            exact h2
          | some u =>
            have : a.tmps.getD d undef = u := by simp [Array.getD_eq_getD_getElem?, hq]
            rw [this] at h2
            show asB (gv e d) = (match some u with
              | some (Value.bool b) => some b
              | _ => none)
            rw [h2]
            cases u <;> rfl
    simp only [hy]
    cases yielded ops a.tmps g with
    | none => rfl
    | some b => cases b <;> cases wn <;> rfl

/-- What is asked of each operation. -/
def OpOk (nt : Nat) (o : Oper) : Prop := opdsOk o = true ∧ dstIn nt o = true

theorem OpOk.dst {nt : Nat} {o : Oper} (h : OpOk nt o) : ∀ x, o.dst = some x → x < nt := by
  intro x hx
  have := h.2
  unfold dstIn at this
  rw [hx] at this
  exact Nat.le_of_ble_eq_true this

theorem undef_ren (j : Inj) : ren j undefV = some undef := rfl

theorem seqR_sim {call : FuncId → List V → H → Option (V × H)} (C : CallSim P base call) (G : CallGd call) {ops : Array Oper} {nt : Nat} {e' : Env} {Q : Exit → Act → World → Prop} :
    ∀ (l : List Oper) (j : Inj) (e : Env) (h : H) (a : Act) (w : World), seqR (mkX P) call ops.toList l e h = some (e', h') → HRel P base j h w → ERel j e a.tmps → (∀ o ∈ l, OpOk nt o) → nt ≤ a.tmps.size → Fresh j h.next h'.next →
    (∀ j' a' w', Step P base j h w j' h' w' → ERel j' e' a'.tmps → a'.tmps.size = a.tmps.size → a'.defers = a.defers → Q .normal a' w') → wpList P ops Q l a w
  | [], j, e, h, a, w, hh, R, he, ok, hn, F, k => by
    simp only [seqR, Option.some.injEq, Prod.mk.injEq] at hh
    obtain ⟨rfl, rfl⟩ := hh
    exact k j a w (Step.refl R) he rfl rfl
  | o :: l, j, e, h, a, w, hh, R, he, ok, hn, F, k => by
    have hok := ok o (by simp)
    have hl := he.looked ops.toList o
    have hd : ∀ x, o.dst = some x → x < a.tmps.size := fun x hx => Nat.lt_of_lt_of_le (hok.dst x hx) hn
    simp only [wpList, hl.wants]
    simp only [seqR] at hh
    cases hw : wantA e ops.toList o with
    | false =>
      rw [hw] at hh
      simp only [cond_false, T.seq_eq] at hh
      simp only [Bool.false_eq_true, if_false]
      refine seqR_sim C G l j _ h _ w hh R (he.put (undef_ren j) hd) (fun o' ho' => ok o' (by simp [ho'])) (by rw [put_size]; exact hn) F fun j' a' w' s1 s2 s3 s4 => k j' a' w' s1 s2 (by rw [s3, put_size]) (by rw [s4, put_defers])
    | true =>
      rw [hw] at hh
      simp only [cond_true] at hh
      rw [if_pos rfl]
      left
      split at hh
      · rename_i v h1 ho
        simp only [fV_eq, T.seq_eq] at hh
        have g1 := gd_op1 G ho
        have g2 := gd_seqR G l hh
        refine op1_sim C ho R (hl.seen hok.1) (F.sub (Nat.le_refl _) g2.1) fun j1 v1 w1 s1 s2 => ?_
        have x1 := s1.ext (F.sub (Nat.le_refl _) g2.1)
        refine seqR_sim C G l j1 _ h1 _ w1 hh s1.rel ((he.ext x1).put s2 hd) (fun o' ho' => ok o' (by simp [ho'])) (by rw [put_size]; exact hn) (s1.fresh F) fun j' a' w' t1 t2 t3 t4 => k j' a' w' (s1.trans t1) t2 (by rw [t3, put_size]) (by rw [t4, put_defers])
      · cases hh

end
end Go.Am
