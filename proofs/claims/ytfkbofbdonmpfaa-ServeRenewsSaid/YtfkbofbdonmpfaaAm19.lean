/- The abstract machine: one operation, and a region in the order of the text. -/
import Derived.Test.YtfkbofbdonmpfaaAm18
import Derived.Orders
set_option linter.unusedSimpArgs false
set_option linter.unusedVariables false
set_option linter.unusedSectionVars false
set_option linter.unnecessarySimpa false
namespace Go.Am
open Go.Instr

def CallSim (P : Program) (base : Nat) (call : FuncId → List V → H → Option (V × H)) : Prop := ∀ f args h v h', call f args h = some (v, h') →
  (∃ fn c, P.funcs[f]? = some fn ∧ (fn.name == "runtime.NumGoroutine") = false ∧ fn.body = some c) ∧
  ∀ (j : Inj) (w : World) (args' : List Value), HRel P base j h w → rens j args = some args' → Fresh j h.next h'.next →
    Calls P f ⟨args'⟩ w fun e w' => ∃ v' j', e = .returned v' ∧ Step P base j h w j' h' w' ∧ ren j' v = some v'

section
variable {P : Program} {j : Inj} {base : Nat} {h h' : H} {w : World}

theorem soft_step {w' : World} (R : HRel P base j h w) (s : Soft base w w') (f : ∀ c, (∀ r b q, h.mem.get r = some b → b.own = true → j r = some q → q.c ≠ c) → w'.heap[c]? = w.heap[c]?) : Step P base j h w j h w' where
  mono := Nat.le_refl _
  out := fun _ _ => rfl
  rel := ⟨fun r b q h1 h2 => s.brel (R.blk r b q h1 h2), R.inj, R.next, by have := R.base; rw [s.size]; exact this⟩
  size := by rw [s.size]; exact Nat.le_refl _
  frame := fun c _ hn => f c hn
  new := fun r b q h1 h2 => absurd (R.next r b h2) (by omega)
  keep := fun _ _ _ => rfl
  old := fun r b' _ hb => ⟨b', hb, rfl⟩
  os := s.os
  tape := s.tape
  output := s.output

theorem ren_f {fn : FuncId} {caps : List V} {v' : Value} (h : ren j (.f fn caps) = some v') : ∃ cs, v' = .func (.func fn) #[] ⟨cs⟩ ∧ rens j caps = some cs := by
  simp only [ren, Option.map_eq_some_iff] at h
  obtain ⟨cs, a, rfl⟩ := h
  exact ⟨cs, rfl, a⟩

theorem call_run {c : Call} {u : Operand} {a : Act} {o : Oper} {fn : FuncId} {f : Func} {b : Code} {caps : List Value} (ho : o.op = .call c) (hc : c.callee = .value u) (hv : a.eval u = .func (.func fn) #[] ⟨caps⟩)
    (h1 : P.funcs[fn]? = some f) (h2 : (f.name == "runtime.NumGoroutine") = false) (h3 : f.body = some b) :
    (execOp a.eval o).run P w = .ok (.enter fn ⟨c.args.toList.map a.eval ++ caps⟩) w := by
  have h2' : ¬ f.name = "runtime.NumGoroutine" := by simpa using h2
  have he : (c.args.map a.eval ++ ⟨caps⟩ : Array Value) = ⟨c.args.toList.map a.eval ++ caps⟩ := by
    apply Array.ext'; simp
  simp [execOp, ho, resolve, hc, hv, Deferred.ofValue, invoke, callFunc, h1, h2', h3, he]

theorem op1_sim {call : FuncId → List V → H → Option (V × H)} (C : CallSim P base call) {e : Env} {o : Oper} {a : Act} {v : V} (hh : op1 (mkX P) call e h o = some (v, h')) (R : HRel P base j h w) (he : Seen j e a o) (F : Fresh j h.next h'.next)
    {K : Act → World → Prop} {Q : Exit → Act → World → Prop} (k : ∀ j' v' w', Step P base j h w j' h' w' → ren j' v = some v' → K (a.put o.dst v') w') : o.wp P a w K Q := by
  unfold Oper.wp
  unfold op1 at hh
  split at hh
  · split at hh
    · rename_i v1 hp
      simp only [Option.some.injEq, Prod.mk.injEq] at hh
      obtain ⟨rfl, rfl⟩ := hh
      obtain ⟨v', h1, h2⟩ := opP_sim w hp he
      rw [h2]; exact k j v' w (Step.refl R) h1
    · cases hh
  · split at hh
    · rename_i v1 hp
      simp only [Option.some.injEq, Prod.mk.injEq] at hh
      obtain ⟨rfl, rfl⟩ := hh
      obtain ⟨v', w', h1, h2, h3, h4⟩ := opR_sim hp R.blk he
      rw [h2]; exact k j v' w' (soft_step R h3 h4) h1
    · cases hh
  · split at hh
    · rename_i b v1 hp
      simp only [newB, fN_eq, T.seq_eq, Option.some.injEq, Prod.mk.injEq] at hh
      obtain ⟨rfl, rfl⟩ := hh
      obtain ⟨v', w', ee, h1, h2⟩ := opN_sim (j := j) hp he R.base
      obtain ⟨s1, s2⟩ := alloc_step none R h2 (F _ (Nat.le_refl _) (Nat.lt_succ_self _)) (by simp)
      rw [h1]; exact k _ v' w' s1 s2
    · cases hh
  · obtain ⟨j', nx, v', w', h1, h2, h3, h4⟩ := opH_sim hh R he F
    rw [h1]
    rcases h2 with rfl | ⟨rfl, rfl⟩
    · exact k j' v' w' h3 h4
    · exact k j' _ w' h3 h4
  · split at hh
    · rename_i c ho
      split at hh
      · rename_i u hc
        split at hh
        · rename_i fn caps hf
          obtain ⟨⟨f, b, f1, f2, f3⟩, g⟩ := C _ _ _ _ _ hh
          have hu := he u (by simp [ho, Op.operands, Call.operands, hc])
          rw [hf] at hu
          obtain ⟨cs, hv, hcs⟩ := ren_f hu
          rw [call_run ho hc hv f1 f2 f3]
          have hargs : rens j (evs e c.args.toList) = some (c.args.toList.map a.eval) := evs_rel _ fun x hx => he x (by simp [ho, Op.operands, Call.operands, hc]; right; simpa using hx)
          refine Calls.mono (g j w _ R (rens_append hargs hcs) F) ?_
          rintro e' w' ⟨v', j', rfl, s1, s2⟩
          exact k j' v' w' s1 s2
        · cases hh
      · cases hh
    · cases hh

end
end Go.Am
