/- ScriptKnown: the code, and the states between the pieces. -/
import Derived.Test.YtcebbmappnbegaaGreatDoorM6
import Derived.Test.YtcebbmappnbegaaGreatDoorM4
import Derived.Test.YtcebbmappnbegaaGreatDoorBvO
set_option linter.unusedSimpArgs false
set_option linter.unusedVariables false
set_option linter.unusedSectionVars false
set_option linter.unnecessarySimpa false
set_option maxRecDepth 100000
namespace Go.Proofs.YtcebbmappnbegaaGreatDoor.scriptKnown
open Go.Am
noncomputable def C0 : Code := bdy Tryz.f3
noncomputable def C1 : Code := (cL C0)
noncomputable def C2 : Code := (cR C0)
noncomputable def C3 : Code := (cL C2)
noncomputable def C4 : Code := (cR C2)
noncomputable def C5 : Code := (cL C4)
noncomputable def C6 : Code := (cR C4)
noncomputable def C7 : Code := (cL C6)
noncomputable def C8 : Code := (cR C6)
noncomputable def C9 : Code := (cL C8)
noncomputable def C10 : Code := (cR C8)
noncomputable def C11 : Code := (cL C10)
noncomputable def C12 : Code := (cR C10)
noncomputable def C13 : Code := (cL C12)
noncomputable def C14 : Code := (cR C12)
noncomputable def C15 : Code := (cL C14)
noncomputable def C16 : Code := (cR C14)
def U (n : Nat) : V := .i .u8 (.ofNat n)
def Q (n : Nat) : V := .i .i64 (.ofNat n)
def D (n : Nat) : V := .i .u32 (.ofNat n)
def W (n : Nat) : V := .i .u16 (.ofNat n)
abbrev so (v : V) : Option V := some v
def z0 : Option V := (so (.t [(.s []), (Q 1)]))
def z1 : Option V := (so (Q 1))
def z2 : Option V := (so (.a [(U 192), (U 168), (U 1), (U 1), (U 192), (U 168), (U 1), (U 0), (Q 24), (U 2), (U 0), (U 0), (U 0), (U 0), (U 1), (U 2), (U 0), (U 0), (U 0), (U 0), (U 2), (U 192), (U 168), (U 1), (U 100), (U 192), (U 168), (U 1), (U 131), (Q 3600), (U 9), (U 9), (U 9), (U 9), (Q 120), (Q 7200), (Q 30), (Q 40000), .ns, .ns]))
def z3 : Option V := (so (Q 9))
def z4 : Option V := (so (.a [(U 0), (U 0), (U 0), (U 0), (U 0), (U 0), (U 0), (U 0), (Q 0), (U 0), (U 0), (U 0), (U 0), (U 0), (U 0), (U 0), (U 0), (U 0), (U 0), (U 0), (U 0), (U 0), (U 0), (U 0), (U 0), (U 0), (U 0), (U 0), (U 0), (Q 0), (U 0), (U 0), (U 0), (U 0), (Q 0), (Q 0), (Q 0), (Q 0), .ns, .ns]))
def z5 : Option V := (so (.t [(.s []), (Q 9)]))
def st0 : Lt := ⟨.n, env0 [] 0 .l, 16, tabB []⟩
def st1 : Lt := ⟨.n, (.n (.n (.n (.n (.n .l z0 .l) none (.n .l (so (.s [])) .l)) (so (.s [])) (.n (.n .l z1 .l) none .l)) (so (.s [])) (.n (.n (.n .l z0 .l) none .l) none (.n (.n .l z2 .l) (so (.b true)) .l))) (so (.b false)) (.n (.n (.n (.n .l z4 .l) none (.n .l z3 .l)) z3 (.n (.n .l z5 .l) none .l)) z1 (.n (.n (.n .l (so (.s [])) .l) none .l) none (.n (.n .l z5 .l) (so (.b false)) .l)))), 422, []⟩
def st2 : Lt := ⟨.n, (.n (.n (.n (.n (.n (.n .l z2 .l) z0 .l) (so (.s [])) (.n .l (so (.s [])) .l)) (so (.s [])) (.n (.n .l z1 .l) none (.n .l z5 .l))) (so (.s [])) (.n (.n (.n (.n .l (so (.s [])) .l) z0 .l) none (.n .l z5 .l)) (so (.s [])) (.n (.n .l z2 .l) (so (.b true)) (.n .l z3 .l)))) (so (.b false)) (.n (.n (.n (.n (.n .l z5 .l) z4 .l) z3 (.n .l z3 .l)) z3 (.n (.n .l z5 .l) none (.n .l (so (.s [])) .l))) z1 (.n (.n (.n (.n .l z3 .l) (so (.s [])) .l) none (.n .l z2 .l)) z3 (.n (.n .l z5 .l) (so (.b false)) (.n .l z5 .l))))), 809, []⟩
def st3 : Lt := ⟨.n, (.n (.n (.n (.n (.n (.n .l z2 .l) z0 .l) (so (.s [])) (.n (.n .l z3 .l) (so (.s [])) .l)) (so (.s [])) (.n (.n (.n .l z5 .l) z1 .l) none (.n .l z5 .l))) (so (.s [])) (.n (.n (.n (.n .l (so (.s [])) .l) z0 .l) (so (.s [])) (.n .l z5 .l)) (so (.s [])) (.n (.n (.n .l z5 .l) z2 .l) (so (.b true)) (.n .l z3 .l)))) (so (.b false)) (.n (.n (.n (.n (.n .l z5 .l) z4 .l) z3 (.n .l z3 .l)) z3 (.n (.n (.n .l z2 .l) z5 .l) none (.n .l (so (.s [])) .l))) z1 (.n (.n (.n (.n .l z3 .l) (so (.s [])) .l) z3 (.n .l z2 .l)) z3 (.n (.n (.n .l (so (.s [])) .l) z5 .l) (so (.b false)) (.n .l z5 .l))))), 1001, []⟩
end Go.Proofs.YtcebbmappnbegaaGreatDoor.scriptKnown
