/- The functions that a function leads to, reckoned with a number as the set of those that were seen: for programs of many functions. -/
import Derived.Test.YtcebbmappnbegaaGreatDoorM8
import Derived.KernelRfl
import Derived.JoinedOf
import GoSem.ClaimGoes
set_option linter.unusedSimpArgs false
set_option linter.unusedVariables false
set_option linter.unusedSectionVars false
set_option linter.unnecessarySimpa false
namespace Go.Am
noncomputable def closB (P : Program) (F : T Func) : Nat → List FuncId → Nat → List FuncId → List FuncId
 | 0, _, _, seen => seen.reverse
 | _ + 1, [], _, seen => seen.reverse
 | n + 1, f :: todo, m, seen => bif Nat.testBit m f then closB P F n todo m seen else closB P F n ((F.get f).elim [] P.leadsTo ++ todo) (m ||| 2 ^ f) (f :: seen)
section
variable {P : Program} {a : T TI} {F : T Func} {ml : Option Nat}
theorem closB_eq (hx : mkX P = { tt := a, ft := F, ml := ml }) : ∀ (n : Nat) (todo : List FuncId) (m : Nat) (seen : List FuncId), (∀ x, seen.contains x = m.testBit x) → P.closureVia n todo seen = closB P F n todo m seen
 | 0, _, _, _, _ => by rw [Program.closureVia, closB]
 | _ + 1, [], _, _, _ => by rw [Program.closureVia, closB]; simp
 | n + 1, f :: todo, m, seen, h => by
  rw [Program.closureVia, closB, h f]
  cases e : m.testBit f with
  | true => rw [if_pos rfl, cond_true]; exact closB_eq hx n todo m seen h
  | false =>
   rw [if_neg (by simp), cond_false, funcs_at hx]
   refine closB_eq hx n _ _ _ fun x => ?_
   rw [Nat.testBit_or, Nat.testBit_two_pow, List.contains_cons, h x, Bool.or_comm]
   congr 1
   by_cases hx : x = f
   ·subst hx; simp
   ·have hx' : ¬ f = x := fun e => hx e.symm
    simp [hx, hx']
theorem closure_eq (hx : mkX P = { tt := a, ft := F, ml := ml }) {f k : Nat} {l : List FuncId} (hk : 1 + (P.funcs.toList.map fun g => (P.leadsTo g).length + 1).sum = k) (h : closB P F k [f] 0 [] = l) : P.closure f = l := by
 unfold Program.closure
 rw [hk, closB_eq hx k [f] 0 [] (fun x => by simp), h]
theorem inPlace_eq (hx : mkX P = { tt := a, ft := F, ml := ml }) {f : Nat} {l : List FuncId} {s : List String} (hl : P.closure f = l)
  (h : (s == l.filterMap fun g => (F.get g).bind fun fn => if fn.ours || fn.body.isNone || fn.name == "runtime.NumGoroutine" then some fn.name else none) = true) : (s == P.inPlace f) = true := by
 unfold Program.inPlace
 simp only [hl, funcs_at hx]
 exact h
theorem unfollowed_eq (hx : mkX P = { tt := a, ft := F, ml := ml }) {f : Nat} {l : List FuncId} (hl : P.closure f = l)
  (h : (l.any fun g => (F.get g).any fun fn => match fn.body with | some c => c.unfollowed | none => entryCalls fn) = true) : P.unfollowed f = true := by
 unfold Program.unfollowed
 simp only [hl, funcs_at hx]
 exact h
theorem recurses_of {f : Nat} (h : P.unfollowed f = true) : P.recurses f = true := by
 unfold Program.recurses
 rw [h, Bool.true_or]
theorem varsNamed_eq (hx : mkX P = { tt := a, ft := F, ml := ml }) {f : Nat} {l : List FuncId} {s : List String} (hl : P.closure f = l)
  (h : (s == ((((l.flatMap fun g => ((F.get g).bind (·.body)).elim [] Code.globalsNamed).eraseDups).filterMap (fun g => (P.globals[g]?).map (·.name)) ++
  l.filterMap fun g => (F.get g).bind fun fn => if fn.body.isNone then entryReads.lookup fn.name else none).eraseDups)) = true) : (s == P.varsNamed f) = true := by
 unfold Program.varsNamed
 simp only [hl, funcs_at hx]
 exact h
theorem funcNamed_eq (hx : mkX P = { tt := a, ft := F, ml := ml }) {M f : Nat} {s : String} (hM : P.funcs.size = M) (h : ((List.range M).filter fun i => (F.get i).any (·.name == s)) = [f]) : P.funcNamed s = some f := by
 unfold Program.funcNamed
 simp only [hM, funcs_at hx, h]
end
theorem goes_none {P : Program} (h : P.funcs.any Func.goes = false) (f : FuncId) : P.goes f = false := by
 unfold Program.goes
 rw [h, Bool.and_false, Bool.or_false, List.any_eq_false]
 intro g _ hg
 cases e : P.funcs[g]? with
 | none => rw [e] at hg; cases hg
 | some fn =>
  rw [e] at hg
  have : P.funcs.any Func.goes = true := Array.any_eq_true.2 (by
   obtain ⟨hi, rfl⟩ := Array.getElem?_eq_some_iff.1 e
   exact ⟨g, hi, hg⟩)
  rw [h] at this
  cases this
theorem goesBy_none {P : Program} {c : OpenClaim} (h : P.funcs.any Func.goes = false) (hs : c.start = .entering) : false = c.goesBy P := by
 unfold OpenClaim.goesBy Program.goesAt Program.goesFrom
 rw [hs]
 cases P.funcNamed c.func with
 | none => rfl
 | some f => simp [goes_none h f]
end Go.Am
