/- TopAsks: the calls. -/
import Derived.Test.YtpegimipbigmbaaGreatDoorTaS
set_option linter.unusedSimpArgs false
set_option linter.unusedVariables false
set_option linter.unusedSectionVars false
set_option linter.unnecessarySimpa false
namespace Go.Proofs.YtpegimipbigmbaaGreatDoor.topAsks
open Go.Am
def avA : List (Int × Int) := [(0, 65535), (-576460752303423488, 576460752303423487)]
def fsA (c : Nat) : List Ck.Nx := [⟨⟨0, [(0, 1)]⟩, 0, 65535⟩, ⟨⟨.ofNat c, [(1, 16)]⟩, -9223372036854775808, 9223372036854775807⟩]
def avB : List (Int × Int) := [(0, 65535), (1, 1000)]
def fsB : List Ck.Nx := [⟨⟨0, [(0, 1)]⟩, 0, 65535⟩, ⟨⟨0, [(1, 1)]⟩, 1, 1000⟩]
def avC : List (Int × Int) := [(0, 50), (0, 999), (-576460752303423488, 576460752303423487), (0, 4294967295)]
def fsC (c : Nat) : List Ck.Nx := [⟨⟨1, [(0, 1), (1, 1)]⟩, 1, 1000⟩, ⟨⟨0, [(0, 1)]⟩, 0, 50⟩, ⟨⟨.ofNat c, [(2, 16)]⟩, -9223372036854775808, 9223372036854775807⟩, ⟨⟨0, [(1, 1)]⟩, 0, 999⟩, ⟨⟨0, [(3, 1)]⟩, 0, 4294967295⟩]
def avD : List (Int × Int) := [(1, 50), (0, 49), (-576460752303423488, 576460752303423487)]
def fsD (c : Nat) : List Ck.Nx := [⟨⟨0, [(0, 1)]⟩, 1, 50⟩, ⟨⟨0, [(0, 1), (1, 1)]⟩, 1, 50⟩, ⟨⟨.ofNat c, [(2, 16)]⟩, -9223372036854775808, 9223372036854775807⟩, ⟨⟨0, [(1, 1)]⟩, 0, 49⟩]
def cA0 (i0 v0 : Int) : List Cl := [⟨0, 7, [(.p 203 0),(.a [z 9,z 0,(.i .i64 v0),(.i .i64 i0),z 0,w 0,w 0,.ns])], (.sl 6609 0 2 2 true)⟩,
 ⟨0, 6, [(.sl 6609 0 2 2 true),z 1], (.t [(.a [z 0,z 0,z 0,z 0,z 64,z 17,y 203,y 0,y 113,y 1,y 9,y 9,y 9,y 9,(.sl 6629 0 0 0 false),(.sl 6631 0 28 28 true)]),(.b true)])⟩]
def cB0 (i0 s0 : Int) : List Cl := [⟨0, 7, [(.p 203 0),(.a [z 10,z 0,z 0,z 0,z 0,w 0,(.i .u32 s0),.ns])], (.sl 7379 0 2 2 true)⟩,
 ⟨0, 6, [(.sl 7379 0 2 2 true),z 0], (.t [(.a [z 0,z 0,z 0,z 0,z 64,z 17,y 192,y 168,y 1,y 1,y 192,y 168,y 1,y 100,(.sl 7399 0 0 0 false),(.sl 7401 0 46 46 true)]),(.b true)])⟩,
 ⟨1, 8, [(.a [z 0,z 0,z 0,z 0,z 64,z 17,y 192,y 168,y 1,y 1,y 192,y 168,y 1,y 100,(.sl 7399 0 0 0 false),(.sl 7401 0 46 46 true)])], (.t [(.a [z 53,z 3000,(.sl 7421 0 38 38 true)]),z 0])⟩,
 ⟨1, 9, [(.sl 7421 0 38 38 true)], (.t [(.a [(.i .i64 i0),z 33152,(.sl 7430 0 1 1 true),(.sl 7437 0 1 1 true),.ns,.ns]),z 0])⟩]
def cC0 (v0 : Int) : List Cl := [⟨0, 7, [(.p 203 0),(.a [z 9,z 1,(.i .i64 v0),z 77,z 0,w 0,w 0,.ns])], (.sl 8120 0 2 2 true)⟩,
 ⟨0, 6, [(.sl 8120 0 2 2 true),z 0], (.t [(.a [z 0,z 0,z 0,z 0,z 64,z 17,y 192,y 168,y 1,y 1,y 192,y 168,y 1,y 101,(.sl 8140 0 0 0 false),(.sl 8142 0 46 46 true)]),(.b true)])⟩,
 ⟨1, 6, [(.sl 8120 0 2 2 true),z 1], (.t [(.a [z 0,z 0,z 0,z 0,z 0,z 0,y 0,y 0,y 0,y 0,y 0,y 0,y 0,y 0,.ns,.ns]),(.b false)])⟩,
 ⟨1, 8, [(.a [z 0,z 0,z 0,z 0,z 64,z 17,y 192,y 168,y 1,y 1,y 192,y 168,y 1,y 101,(.sl 8140 0 0 0 false),(.sl 8142 0 46 46 true)])], (.t [(.a [z 53,z 3000,(.sl 8187 0 38 38 true)]),z 0])⟩,
 ⟨1, 9, [(.sl 8187 0 38 38 true)], (.t [(.a [z 77,z 33152,(.sl 8196 0 1 1 true),(.sl 8203 0 1 1 true),.ns,.ns]),z 0])⟩]
def cD0 (v0 : Int) : List Cl := [⟨0, 7, [(.p 203 0),(.a [z 9,z 1,(.i .i64 v0),z 77,z 0,w 0,w 0,.ns])], (.sl 7915 0 1 1 true)⟩,
 ⟨0, 6, [(.sl 7915 0 1 1 true),z 0], (.t [(.a [z 0,z 0,z 0,z 0,z 0,z 0,y 0,y 0,y 0,y 0,y 0,y 0,y 0,y 0,.ns,.ns]),(.b false)])⟩,
 ⟨1, 6, [(.sl 7915 0 1 1 true),z 1], (.t [(.a [z 0,z 0,z 0,z 0,z 64,z 17,y 203,y 0,y 113,y 1,y 9,y 9,y 9,y 9,(.sl 7996 0 0 0 false),(.sl 7998 0 28 28 true)]),(.b true)])⟩]
def mS0 (c : Nat) (i0 : Int) : Mt := ⟨6634, sS0 c i0⟩
def mT0 (c : Nat) (s0 s1 : Int) : Mt := ⟨7438, tA0 1 5 ++ tB0 ++ tC0 c s0 s1 ++ tD0⟩
def mZ0 (t : Int) : Mt := ⟨8204, [(8203, .c [(.sl 8198 0 1 1 true),z 1,z 1,(.i .u32 t),(.sl 8201 0 4 4 true)] 69 true), (203, b8), (202, b7)]⟩
def mE0 : Mt := ⟨8001, []⟩
def cA1 (i0 v0 : Int) : List Cl := [⟨0, 7, [(.p 203 0),(.a [z 9,z 1,(.i .i64 v0),(.i .i64 i0),z 0,w 0,w 0,.ns])], (.sl 6610 0 2 2 true)⟩,
 ⟨0, 6, [(.sl 6610 0 2 2 true),z 1], (.t [(.a [z 0,z 0,z 0,z 0,z 64,z 17,y 203,y 0,y 113,y 1,y 9,y 9,y 9,y 9,(.sl 6630 0 0 0 false),(.sl 6632 0 28 28 true)]),(.b true)])⟩]
def cB1 (i0 s0 : Int) : List Cl := [⟨0, 7, [(.p 203 0),(.a [z 10,z 0,z 0,z 0,z 0,w 0,(.i .u32 s0),.ns])], (.sl 7380 0 2 2 true)⟩,
 ⟨0, 6, [(.sl 7380 0 2 2 true),z 0], (.t [(.a [z 0,z 0,z 0,z 0,z 64,z 17,y 192,y 168,y 1,y 1,y 192,y 168,y 1,y 101,(.sl 7400 0 0 0 false),(.sl 7402 0 46 46 true)]),(.b true)])⟩,
 ⟨1, 8, [(.a [z 0,z 0,z 0,z 0,z 64,z 17,y 192,y 168,y 1,y 1,y 192,y 168,y 1,y 101,(.sl 7400 0 0 0 false),(.sl 7402 0 46 46 true)])], (.t [(.a [z 53,z 3000,(.sl 7422 0 38 38 true)]),z 0])⟩,
 ⟨1, 9, [(.sl 7422 0 38 38 true)], (.t [(.a [(.i .i64 i0),z 33152,(.sl 7431 0 1 1 true),(.sl 7438 0 1 1 true),.ns,.ns]),z 0])⟩]
def cC1 (v0 : Int) : List Cl := [⟨0, 7, [(.p 203 0),(.a [z 9,z 2,(.i .i64 v0),z 77,z 0,w 0,w 0,.ns])], (.sl 8122 0 2 2 true)⟩,
 ⟨0, 6, [(.sl 8122 0 2 2 true),z 0], (.t [(.a [z 0,z 0,z 0,z 0,z 64,z 17,y 192,y 168,y 1,y 1,y 192,y 168,y 1,y 102,(.sl 8142 0 0 0 false),(.sl 8144 0 46 46 true)]),(.b true)])⟩,
 ⟨1, 6, [(.sl 8122 0 2 2 true),z 1], (.t [(.a [z 0,z 0,z 0,z 0,z 0,z 0,y 0,y 0,y 0,y 0,y 0,y 0,y 0,y 0,.ns,.ns]),(.b false)])⟩,
 ⟨1, 8, [(.a [z 0,z 0,z 0,z 0,z 64,z 17,y 192,y 168,y 1,y 1,y 192,y 168,y 1,y 102,(.sl 8142 0 0 0 false),(.sl 8144 0 46 46 true)])], (.t [(.a [z 53,z 3000,(.sl 8189 0 38 38 true)]),z 0])⟩,
 ⟨1, 9, [(.sl 8189 0 38 38 true)], (.t [(.a [z 77,z 33152,(.sl 8198 0 1 1 true),(.sl 8205 0 1 1 true),.ns,.ns]),z 0])⟩]
def cD1 (v0 : Int) : List Cl := [⟨0, 7, [(.p 203 0),(.a [z 9,z 2,(.i .i64 v0),z 77,z 0,w 0,w 0,.ns])], (.sl 7917 0 1 1 true)⟩,
 ⟨0, 6, [(.sl 7917 0 1 1 true),z 0], (.t [(.a [z 0,z 0,z 0,z 0,z 0,z 0,y 0,y 0,y 0,y 0,y 0,y 0,y 0,y 0,.ns,.ns]),(.b false)])⟩,
 ⟨1, 6, [(.sl 7917 0 1 1 true),z 1], (.t [(.a [z 0,z 0,z 0,z 0,z 64,z 17,y 203,y 0,y 113,y 1,y 9,y 9,y 9,y 9,(.sl 7998 0 0 0 false),(.sl 8000 0 28 28 true)]),(.b true)])⟩]
def mS1 (c : Nat) (i0 : Int) : Mt := ⟨6635, sS1 c i0⟩
def mT1 (c : Nat) (s0 s1 : Int) : Mt := ⟨7439, tA1 1 5 ++ tB0 ++ tC1 c s0 s1 ++ tD1⟩
def mZ1 (t : Int) : Mt := ⟨8206, [(8205, .c [(.sl 8200 0 1 1 true),z 1,z 1,(.i .u32 t),(.sl 8203 0 4 4 true)] 69 true), (203, b8), (202, b23)]⟩
def mE1 : Mt := ⟨8003, []⟩
def cA2 (i0 v0 : Int) : List Cl := [⟨0, 7, [(.p 203 0),(.a [z 9,z 2,(.i .i64 v0),(.i .i64 i0),z 0,w 0,w 0,.ns])], (.sl 6611 0 2 2 true)⟩,
 ⟨0, 6, [(.sl 6611 0 2 2 true),z 1], (.t [(.a [z 0,z 0,z 0,z 0,z 64,z 17,y 203,y 0,y 113,y 1,y 9,y 9,y 9,y 9,(.sl 6631 0 0 0 false),(.sl 6633 0 28 28 true)]),(.b true)])⟩]
def cB2 (i0 s0 : Int) : List Cl := [⟨0, 7, [(.p 203 0),(.a [z 10,z 0,z 0,z 0,z 0,w 0,(.i .u32 s0),.ns])], (.sl 7381 0 2 2 true)⟩,
 ⟨0, 6, [(.sl 7381 0 2 2 true),z 0], (.t [(.a [z 0,z 0,z 0,z 0,z 64,z 17,y 192,y 168,y 1,y 1,y 192,y 168,y 1,y 102,(.sl 7401 0 0 0 false),(.sl 7403 0 46 46 true)]),(.b true)])⟩,
 ⟨1, 8, [(.a [z 0,z 0,z 0,z 0,z 64,z 17,y 192,y 168,y 1,y 1,y 192,y 168,y 1,y 102,(.sl 7401 0 0 0 false),(.sl 7403 0 46 46 true)])], (.t [(.a [z 53,z 3000,(.sl 7423 0 38 38 true)]),z 0])⟩,
 ⟨1, 9, [(.sl 7423 0 38 38 true)], (.t [(.a [(.i .i64 i0),z 33152,(.sl 7432 0 1 1 true),(.sl 7439 0 1 1 true),.ns,.ns]),z 0])⟩]
def cC2 (v0 : Int) : List Cl := [⟨0, 7, [(.p 203 0),(.a [z 9,z 0,(.i .i64 v0),z 77,z 0,w 0,w 0,.ns])], (.sl 8121 0 2 2 true)⟩,
 ⟨0, 6, [(.sl 8121 0 2 2 true),z 0], (.t [(.a [z 0,z 0,z 0,z 0,z 64,z 17,y 192,y 168,y 1,y 1,y 192,y 168,y 1,y 100,(.sl 8141 0 0 0 false),(.sl 8143 0 46 46 true)]),(.b true)])⟩,
 ⟨1, 6, [(.sl 8121 0 2 2 true),z 1], (.t [(.a [z 0,z 0,z 0,z 0,z 0,z 0,y 0,y 0,y 0,y 0,y 0,y 0,y 0,y 0,.ns,.ns]),(.b false)])⟩,
 ⟨1, 8, [(.a [z 0,z 0,z 0,z 0,z 64,z 17,y 192,y 168,y 1,y 1,y 192,y 168,y 1,y 100,(.sl 8141 0 0 0 false),(.sl 8143 0 46 46 true)])], (.t [(.a [z 53,z 3000,(.sl 8188 0 38 38 true)]),z 0])⟩,
 ⟨1, 9, [(.sl 8188 0 38 38 true)], (.t [(.a [z 77,z 33152,(.sl 8197 0 1 1 true),(.sl 8204 0 1 1 true),.ns,.ns]),z 0])⟩]
def cD2 (v0 : Int) : List Cl := [⟨0, 7, [(.p 203 0),(.a [z 9,z 0,(.i .i64 v0),z 77,z 0,w 0,w 0,.ns])], (.sl 7916 0 1 1 true)⟩,
 ⟨0, 6, [(.sl 7916 0 1 1 true),z 0], (.t [(.a [z 0,z 0,z 0,z 0,z 0,z 0,y 0,y 0,y 0,y 0,y 0,y 0,y 0,y 0,.ns,.ns]),(.b false)])⟩,
 ⟨1, 6, [(.sl 7916 0 1 1 true),z 1], (.t [(.a [z 0,z 0,z 0,z 0,z 64,z 17,y 203,y 0,y 113,y 1,y 9,y 9,y 9,y 9,(.sl 7997 0 0 0 false),(.sl 7999 0 28 28 true)]),(.b true)])⟩]
def mS2 (c : Nat) (i0 : Int) : Mt := ⟨6636, sS2 c i0⟩
def mT2 (c : Nat) (s0 s1 : Int) : Mt := ⟨7440, tA2 1 5 ++ tB0 ++ tC2 c s0 s1 ++ tD2⟩
def mZ2 (t : Int) : Mt := ⟨8205, [(8204, .c [(.sl 8199 0 1 1 true),z 1,z 1,(.i .u32 t),(.sl 8202 0 4 4 true)] 69 true), (203, b8), (202, b25)]⟩
def mE2 : Mt := ⟨8002, []⟩
def mU : Mt := ⟨5950, uU⟩
def mV2 : Mt := ⟨419, uV2⟩
def mV3 : Mt := ⟨974, uV3⟩
def mV4 : Mt := ⟨1366, uV4⟩
def mV5 : Mt := ⟨2351, uV5⟩
def mV6 : Mt := ⟨2832, uV6⟩
def mV7 : Mt := ⟨3877, uV7⟩
def mV8 : Mt := ⟨4361, uV8⟩
def mV9 : Mt := ⟨5463, uV9⟩
def cW : List Cl := [⟨0, 4, [], (.b true)⟩]
noncomputable def rW (x : X) (tab : Tab) : Bool := runC x tab 99 cW ⟨16, []⟩ ⟨228, []⟩ [] []
def vCf : V := .a [y 192,y 168,y 1,y 1,y 192,y 168,y 1,y 0,z 24,y 2,y 0,y 0,y 0,y 0,y 1,y 2,y 0,y 0,y 0,y 0,y 2,y 192,y 168,y 1,y 100,y 192,y 168,y 1,y 131,z 3600,y 9,y 9,y 9,y 9,z 120,z 7200,z 30,z 40000,.ns,.ns]
def cU2 : List Cl := [⟨0, 12, [], vCf⟩, ⟨0, 13, [vCf], (.p 203 0)⟩, ⟨0, 10, [(.p 203 0),(.a [z 0,z 0,z 0,z 0,z 0,w 5,w 0,.ns])], (.sl 347 0 1 1 true)⟩]
def cU3 : List Cl := [⟨0, 10, [(.p 203 0),(.a [z 3,z 0,z 0,z 0,z 0,w 0,w 3000,.ns])], (.sl 910 0 1 1 true)⟩]
def cU4 : List Cl := [⟨0, 10, [(.p 203 0),(.a [z 3,z 0,z 0,z 0,z 0,w 0,w 3000,.ns])], .ns⟩]
def cU5 : List Cl := [⟨0, 10, [(.p 203 0),(.a [z 2,z 0,z 0,z 0,z 0,w 0,w 0,.ns])], (.sl 2168 0 1 1 true)⟩]
def cU6 : List Cl := [⟨0, 10, [(.p 203 0),(.a [z 3,z 0,z 0,z 0,z 0,w 0,w 0,.ns])], (.sl 2758 0 1 1 true)⟩]
def cU7 : List Cl := [⟨0, 10, [(.p 203 0),(.a [z 2,z 1,z 0,z 0,z 0,w 0,w 0,.ns])], (.sl 3694 0 1 1 true)⟩]
def cU8 : List Cl := [⟨0, 10, [(.p 203 0),(.a [z 3,z 0,z 0,z 0,z 0,w 0,w 0,.ns])], (.sl 4287 0 1 1 true)⟩]
def cU9 : List Cl := [⟨0, 10, [(.p 203 0),(.a [z 2,z 2,z 0,z 0,z 0,w 0,w 0,.ns])], (.sl 5280 0 1 1 true)⟩]
def cU10 : List Cl := [⟨0, 10, [(.p 203 0),(.a [z 3,z 0,z 0,z 0,z 0,w 0,w 0,.ns])], (.sl 5876 0 1 1 true)⟩]
noncomputable def rU2 (x : X) (tab : Tab) : Bool := runC x tab 98 cU2 ⟨16, []⟩ mV2 [] []
noncomputable def rU3 (x : X) (tab : Tab) : Bool := runC x tab 98 cU3 mV2 mV3 [] []
noncomputable def rU4 (x : X) (tab : Tab) : Bool := runC x tab 98 cU4 mV3 mV4 [] []
noncomputable def rU5 (x : X) (tab : Tab) : Bool := runC x tab 98 cU5 mV4 mV5 [] []
noncomputable def rU6 (x : X) (tab : Tab) : Bool := runC x tab 98 cU6 mV5 mV6 [] []
noncomputable def rU7 (x : X) (tab : Tab) : Bool := runC x tab 98 cU7 mV6 mV7 [] []
noncomputable def rU8 (x : X) (tab : Tab) : Bool := runC x tab 98 cU8 mV7 mV8 [] []
noncomputable def rU9 (x : X) (tab : Tab) : Bool := runC x tab 98 cU9 mV8 mV9 [] []
noncomputable def rU10 (x : X) (tab : Tab) : Bool := runC x tab 98 cU10 mV9 mU [] []
noncomputable def rA0 (x : X) (tab : Tab) (c : Nat) : Bool := runC x tab 99 (cA0 (.ofNat 18446745173221179392) (.ofNat 18446747372244434944)) mU (mS0 c (.ofNat 18446745173221179392)) avA (fsA c)
noncomputable def rB0 (x : X) (tab : Tab) (c : Nat) : Bool := runC x tab 99 (cB0 (.ofNat 18446745173221179392) (.ofNat 18446747372244434944)) ⟨6635, sS0 c (.ofNat 18446745173221179392)⟩ (mT0 c (.ofNat 18446747372244434944) (.ofNat 18446747372244434945)) avB fsB
noncomputable def rC0 (x : X) (tab : Tab) (c : Nat) : Bool := runC x tab 99 (cC0 (.ofNat 18446749571267690496)) ⟨7439, tA0 (.ofNat 18446747372244434945) (.ofNat 18446753969314201600) ++ tC0 c (.ofNat 18446745173221179392) (.ofNat 18446745173221179393) ++ tD0⟩ (mZ0 (.ofNat 18446751770290946049)) avC (fsC c)
noncomputable def rD0 (x : X) (tab : Tab) (c : Nat) : Bool := runC x tab 99 (cD0 (.ofNat 18446749571267690496)) ⟨7439, tA0 (.ofNat 18446747372244434945) 3 ++ tC0 c (.ofNat 18446745173221179392) (.ofNat 18446745173221179393) ++ tD0⟩ mE0 avD (fsD c)
noncomputable def rA1 (x : X) (tab : Tab) (c : Nat) : Bool := runC x tab 99 (cA1 (.ofNat 18446745173221179392) (.ofNat 18446747372244434944)) mU (mS1 c (.ofNat 18446745173221179392)) avA (fsA c)
noncomputable def rB1 (x : X) (tab : Tab) (c : Nat) : Bool := runC x tab 99 (cB1 (.ofNat 18446745173221179392) (.ofNat 18446747372244434944)) ⟨6636, sS1 c (.ofNat 18446745173221179392)⟩ (mT1 c (.ofNat 18446747372244434944) (.ofNat 18446747372244434945)) avB fsB
noncomputable def rC1 (x : X) (tab : Tab) (c : Nat) : Bool := runC x tab 99 (cC1 (.ofNat 18446749571267690496)) ⟨7440, tA1 (.ofNat 18446747372244434945) (.ofNat 18446753969314201600) ++ tC1 c (.ofNat 18446745173221179392) (.ofNat 18446745173221179393) ++ tD1⟩ (mZ1 (.ofNat 18446751770290946049)) avC (fsC c)
noncomputable def rD1 (x : X) (tab : Tab) (c : Nat) : Bool := runC x tab 99 (cD1 (.ofNat 18446749571267690496)) ⟨7440, tA1 (.ofNat 18446747372244434945) 3 ++ tC1 c (.ofNat 18446745173221179392) (.ofNat 18446745173221179393) ++ tD1⟩ mE1 avD (fsD c)
noncomputable def rA2 (x : X) (tab : Tab) (c : Nat) : Bool := runC x tab 99 (cA2 (.ofNat 18446745173221179392) (.ofNat 18446747372244434944)) mU (mS2 c (.ofNat 18446745173221179392)) avA (fsA c)
noncomputable def rB2 (x : X) (tab : Tab) (c : Nat) : Bool := runC x tab 99 (cB2 (.ofNat 18446745173221179392) (.ofNat 18446747372244434944)) ⟨6637, sS2 c (.ofNat 18446745173221179392)⟩ (mT2 c (.ofNat 18446747372244434944) (.ofNat 18446747372244434945)) avB fsB
noncomputable def rC2 (x : X) (tab : Tab) (c : Nat) : Bool := runC x tab 99 (cC2 (.ofNat 18446749571267690496)) ⟨7441, tA2 (.ofNat 18446747372244434945) (.ofNat 18446753969314201600) ++ tC2 c (.ofNat 18446745173221179392) (.ofNat 18446745173221179393) ++ tD2⟩ (mZ2 (.ofNat 18446751770290946049)) avC (fsC c)
noncomputable def rD2 (x : X) (tab : Tab) (c : Nat) : Bool := runC x tab 99 (cD2 (.ofNat 18446749571267690496)) ⟨7441, tA2 (.ofNat 18446747372244434945) 3 ++ tC2 c (.ofNat 18446745173221179392) (.ofNat 18446745173221179393) ++ tD2⟩ mE2 avD (fsD c)
def cT : List Cl := [⟨0, 10, [(.p 203 0),(.a [z 0,z 0,z 0,z 0,z 0,w 3,w 0,.ns])], .ns⟩]
noncomputable def rT0 (x : X) (tab : Tab) (k : List (Nat × B)) (lo hi : Int) : Bool := runC x tab 99 cT ⟨7439, tA0 (.ofNat 18446745173221179392) 3 ++ k ++ tD0⟩ ⟨7473, tA0 (.ofNat 18446745173221179393) 3 ++ k ++ tD0⟩ [(lo, hi)] [⟨⟨0, [(0, 1)]⟩, lo, hi⟩]
noncomputable def rM0 (x : X) (tab : Tab) : Bool := runC x tab 99 cT ⟨7439, tA0 2 3 ++ tB1 ++ tD0⟩ ⟨7473, tA0 3 3 ++ tB1 ++ tD0⟩ [] []
noncomputable def rL00 (x : X) (tab : Tab) : Bool := runC x tab 99 [⟨0, 10, [(.p 203 0),(.a [z 0,z 0,z 0,z 0,z 0,w 3,w 0,.ns])], (.sl 7545 0 1 1 true)⟩] ⟨7439, tA0 1 5 ++ tB0 ++ tD0⟩ ⟨7589, tA0 2 3 ++ tB1 ++ tD0⟩ [] []
noncomputable def rL01 (x : X) (tab : Tab) : Bool := runC x tab 99 [⟨0, 10, [(.p 203 0),(.a [z 0,z 0,z 0,z 0,z 0,w 3,w 0,.ns])], (.sl 7545 0 1 1 true)⟩] ⟨7439, tA0 3 3 ++ tB1 ++ tD0⟩ ⟨7589, tA0 4 3 ++ tB2 ++ tD0⟩ [] []
noncomputable def rL02 (x : X) (tab : Tab) : Bool := runC x tab 99 [⟨0, 10, [(.p 203 0),(.a [z 0,z 0,z 0,z 0,z 0,w 3,w 0,.ns])], (.sl 7545 0 1 1 true)⟩] ⟨7439, tA0 7 3 ++ tB2 ++ tD0⟩ ⟨7589, tA0 8 3 ++ tB3 ++ tD0⟩ [] []
noncomputable def rL03 (x : X) (tab : Tab) : Bool := runC x tab 99 [⟨0, 10, [(.p 203 0),(.a [z 0,z 0,z 0,z 0,z 0,w 3,w 0,.ns])], (.sl 7545 0 1 1 true)⟩] ⟨7439, tA0 15 3 ++ tB3 ++ tD0⟩ ⟨7589, tA0 16 3 ++ tB4 ++ tD0⟩ [] []
noncomputable def rL04 (x : X) (tab : Tab) : Bool := runC x tab 99 [⟨0, 10, [(.p 203 0),(.a [z 0,z 0,z 0,z 0,z 0,w 3,w 0,.ns])], (.sl 7545 0 1 1 true)⟩] ⟨7439, tA0 31 3 ++ tB4 ++ tD0⟩ ⟨7589, tA0 32 3 ++ tB5 ++ tD0⟩ [] []
noncomputable def rT1 (x : X) (tab : Tab) (k : List (Nat × B)) (lo hi : Int) : Bool := runC x tab 99 cT ⟨7440, tA1 (.ofNat 18446745173221179392) 3 ++ k ++ tD1⟩ ⟨7474, tA1 (.ofNat 18446745173221179393) 3 ++ k ++ tD1⟩ [(lo, hi)] [⟨⟨0, [(0, 1)]⟩, lo, hi⟩]
noncomputable def rM1 (x : X) (tab : Tab) : Bool := runC x tab 99 cT ⟨7440, tA1 2 3 ++ tB1 ++ tD1⟩ ⟨7474, tA1 3 3 ++ tB1 ++ tD1⟩ [] []
noncomputable def rL10 (x : X) (tab : Tab) : Bool := runC x tab 99 [⟨0, 10, [(.p 203 0),(.a [z 0,z 0,z 0,z 0,z 0,w 3,w 0,.ns])], (.sl 7546 0 1 1 true)⟩] ⟨7440, tA1 1 5 ++ tB0 ++ tD1⟩ ⟨7590, tA1 2 3 ++ tB1 ++ tD1⟩ [] []
noncomputable def rL11 (x : X) (tab : Tab) : Bool := runC x tab 99 [⟨0, 10, [(.p 203 0),(.a [z 0,z 0,z 0,z 0,z 0,w 3,w 0,.ns])], (.sl 7546 0 1 1 true)⟩] ⟨7440, tA1 3 3 ++ tB1 ++ tD1⟩ ⟨7590, tA1 4 3 ++ tB2 ++ tD1⟩ [] []
noncomputable def rL12 (x : X) (tab : Tab) : Bool := runC x tab 99 [⟨0, 10, [(.p 203 0),(.a [z 0,z 0,z 0,z 0,z 0,w 3,w 0,.ns])], (.sl 7546 0 1 1 true)⟩] ⟨7440, tA1 7 3 ++ tB2 ++ tD1⟩ ⟨7590, tA1 8 3 ++ tB3 ++ tD1⟩ [] []
noncomputable def rL13 (x : X) (tab : Tab) : Bool := runC x tab 99 [⟨0, 10, [(.p 203 0),(.a [z 0,z 0,z 0,z 0,z 0,w 3,w 0,.ns])], (.sl 7546 0 1 1 true)⟩] ⟨7440, tA1 15 3 ++ tB3 ++ tD1⟩ ⟨7590, tA1 16 3 ++ tB4 ++ tD1⟩ [] []
noncomputable def rL14 (x : X) (tab : Tab) : Bool := runC x tab 99 [⟨0, 10, [(.p 203 0),(.a [z 0,z 0,z 0,z 0,z 0,w 3,w 0,.ns])], (.sl 7546 0 1 1 true)⟩] ⟨7440, tA1 31 3 ++ tB4 ++ tD1⟩ ⟨7590, tA1 32 3 ++ tB5 ++ tD1⟩ [] []
noncomputable def rT2 (x : X) (tab : Tab) (k : List (Nat × B)) (lo hi : Int) : Bool := runC x tab 99 cT ⟨7441, tA2 (.ofNat 18446745173221179392) 3 ++ k ++ tD2⟩ ⟨7475, tA2 (.ofNat 18446745173221179393) 3 ++ k ++ tD2⟩ [(lo, hi)] [⟨⟨0, [(0, 1)]⟩, lo, hi⟩]
noncomputable def rM2 (x : X) (tab : Tab) : Bool := runC x tab 99 cT ⟨7441, tA2 2 3 ++ tB1 ++ tD2⟩ ⟨7475, tA2 3 3 ++ tB1 ++ tD2⟩ [] []
noncomputable def rL20 (x : X) (tab : Tab) : Bool := runC x tab 99 [⟨0, 10, [(.p 203 0),(.a [z 0,z 0,z 0,z 0,z 0,w 3,w 0,.ns])], (.sl 7547 0 1 1 true)⟩] ⟨7441, tA2 1 5 ++ tB0 ++ tD2⟩ ⟨7591, tA2 2 3 ++ tB1 ++ tD2⟩ [] []
noncomputable def rL21 (x : X) (tab : Tab) : Bool := runC x tab 99 [⟨0, 10, [(.p 203 0),(.a [z 0,z 0,z 0,z 0,z 0,w 3,w 0,.ns])], (.sl 7547 0 1 1 true)⟩] ⟨7441, tA2 3 3 ++ tB1 ++ tD2⟩ ⟨7591, tA2 4 3 ++ tB2 ++ tD2⟩ [] []
noncomputable def rL22 (x : X) (tab : Tab) : Bool := runC x tab 99 [⟨0, 10, [(.p 203 0),(.a [z 0,z 0,z 0,z 0,z 0,w 3,w 0,.ns])], (.sl 7547 0 1 1 true)⟩] ⟨7441, tA2 7 3 ++ tB2 ++ tD2⟩ ⟨7591, tA2 8 3 ++ tB3 ++ tD2⟩ [] []
noncomputable def rL23 (x : X) (tab : Tab) : Bool := runC x tab 99 [⟨0, 10, [(.p 203 0),(.a [z 0,z 0,z 0,z 0,z 0,w 3,w 0,.ns])], (.sl 7547 0 1 1 true)⟩] ⟨7441, tA2 15 3 ++ tB3 ++ tD2⟩ ⟨7591, tA2 16 3 ++ tB4 ++ tD2⟩ [] []
noncomputable def rL24 (x : X) (tab : Tab) : Bool := runC x tab 99 [⟨0, 10, [(.p 203 0),(.a [z 0,z 0,z 0,z 0,z 0,w 3,w 0,.ns])], (.sl 7547 0 1 1 true)⟩] ⟨7441, tA2 31 3 ++ tB4 ++ tD2⟩ ⟨7591, tA2 32 3 ++ tB5 ++ tD2⟩ [] []
end Go.Proofs.YtpegimipbigmbaaGreatDoor.topAsks
