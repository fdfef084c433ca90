/- Closed families: numbers, the gateway's ticks. -/
import Derived.Test.YtmcknijenobdaaaGreatDoorM5
import Derived.Test.YtmcknijenobdaaaGreatDoorYtmcLx
set_option linter.unusedSimpArgs false
set_option linter.unusedVariables false
set_option linter.unusedSectionVars false
set_option linter.unnecessarySimpa false
set_option maxRecDepth 100000
namespace Go.Proofs.YtmcknijenobdaaaGreatDoor.Wb
open Go Go.Am Go.Proofs.YtmcknijenobdaaaGreatDoor.Facts

/-- A number's digits, below a thousand. -/
def dgN (n : Nat) : List UInt8 := if n < 10 then [UInt8.ofNat (48 + n)] else if n < 100 then [UInt8.ofNat (48 + n / 10), UInt8.ofNat (48 + n % 10)] else [UInt8.ofNat (48 + n / 100), UInt8.ofNat (48 + n / 10 % 10), UInt8.ofNat (48 + n % 10)]
def tickW : List UInt8 := [116, 105, 99, 107]
def nowW : List UInt8 := [110, 111, 119]
def tens : List Int := [1, 10, 100, 1000, 10000, 100000, 1000000, 10000000, 100000000, 1000000000, 10000000000, 100000000000, 1000000000000, 10000000000000, 100000000000000, 1000000000000000, 10000000000000000, 100000000000000000, 1000000000000000000, 10000000000000000000]
def G10 : List (Nat × B) := [(0, .c (tens.map (V.i .u64)) 0 false)]
def CF : List V := [.i .u8 192, .i .u8 168, .i .u8 1, .i .u8 1, .i .u8 192, .i .u8 168, .i .u8 1, .i .u8 0, .i .i64 24, .i .u8 2, .i .u8 0, .i .u8 0, .i .u8 0, .i .u8 0, .i .u8 1, .i .u8 2, .i .u8 0, .i .u8 0, .i .u8 0, .i .u8 0, .i .u8 2, .i .u8 192, .i .u8 168, .i .u8 1, .i .u8 100, .i .u8 192, .i .u8 168, .i .u8 1, .i .u8 131, .i .i64 3600, .i .u8 9, .i .u8 9, .i .u8 9, .i .u8 9, .i .i64 120, .i .i64 7200, .i .i64 30, .i .i64 40000, .ns, .ns]
/-- When the last message was sent: whether one was, when, how long it waits, how many there were. -/
def lz (k : Nat) : Int × Int × Int × Int := if k < 1 then (0, 0, 0, 0) else if k < 5 then (1, 1, 4, 1) else if k < 13 then (1, 5, 8, 2) else if k < 29 then (1, 13, 16, 3) else if k < 61 then (1, 29, 32, 4) else if k < 125 then (1, 61, 64, 5) else if k < 189 then (1, 125, 64, 6) else if k < 253 then (1, 189, 64, 7) else (1, 253, 64, 8)
/-- The gateway's blocks behind so many ticks. -/
def St (k : Nat) : List B := [.c (CF ++ [.i .i64 k, .i .u32 k, .p 17 0, .p 18 0, .p 19 0, .p 20 0, .p 21 0, .p 22 0, .p 23 0, .p 24 0, .ns]) 74 true,
  .c [.i .i64 600, .i .i64 k, .ns] 156 true,
  .c [.i .i64 600, .i .i64 k, .ns] 156 true,
  .c (CF ++ [.p 25 0]) 161 true,
  .c [.i .u8 2, .i .u8 0, .i .u8 0, .i .u8 0, .i .u8 0, .i .u8 2, .i .i64 (lz k).1, .i .i64 k, .i .u32 (lz k).1, .i .u8 0, .i .u8 0, .i .u8 0, .i .u8 0, .i .u8 0, .i .u8 0, .i .u8 0, .i .u8 0, .i .u8 0, .i .u8 0, .i .u8 0, .i .u8 0, .i .u8 0, .i .u8 0, .i .u8 0, .i .u8 0, .i .i64 0, .i .i64 0, .i .u8 0, .i .u8 0, .i .u8 0, .i .u8 0, .i .u8 0, .i .u8 0, .i .u8 0, .i .u8 0, .i .i64 (lz k).2.1, .i .i64 (lz k).2.2.1, .i .i64 (lz k).2.2.2] 163 true,
  .c [.i .i64 40000, .i .i64 128, .i .i64 k, .ns] 165 true,
  .c [.p 21 0, .p 26 0, .i .i64 120, .i .i64 7200, .i .i64 30] 176 true,
  .c [.i .i64 32, .ns, .p 27 0] 182 true,
  .c [.p 21 0, .i .i64 0, .ns] 185 true,
  .c [.i .u32 3232235876, .i .u32 3232235907, .ns, .ns, .m 28, .i .i64 k] 239 true,
  .c [.i .i64 128, .ns] 246 true,
  .c [.i .i64 64, .ns] 249 true,
  .mp [] 0]
def sendB (k : Nat) : Bool := [1, 5, 13, 29, 61, 125, 189, 253].any (Nat.beq k)
def FB : List UInt8 := [255, 255, 255, 255, 255, 255, 2, 0, 0, 0, 0, 2, 8, 0, 69, 0, 1, 72, 0, 0, 0, 0, 64, 17, 121, 166, 0, 0, 0, 0, 255, 255, 255, 255, 0, 68, 0, 67, 1, 52, 129, 213, 1, 1, 6, 0, 0, 0, 0, 1, 0, 0, 128, 0, 0, 0, 0, 0, 0, 0, 0, 0, 0, 0, 0, 0, 0, 0, 0, 0, 2, 0, 0, 0, 0, 2, 0, 0, 0, 0, 0, 0, 0, 0, 0, 0, 0, 0, 0, 0, 0, 0, 0, 0, 0, 0, 0, 0, 0, 0, 0, 0, 0, 0, 0, 0, 0, 0, 0, 0, 0, 0, 0, 0, 0, 0, 0, 0, 0, 0, 0, 0, 0, 0, 0, 0, 0, 0, 0, 0, 0, 0, 0, 0, 0, 0, 0, 0, 0, 0, 0, 0, 0, 0, 0, 0, 0, 0, 0, 0, 0, 0, 0, 0, 0, 0, 0, 0, 0, 0, 0, 0, 0, 0, 0, 0, 0, 0, 0, 0, 0, 0, 0, 0, 0, 0, 0, 0, 0, 0, 0, 0, 0, 0, 0, 0, 0, 0, 0, 0, 0, 0, 0, 0, 0, 0, 0, 0, 0, 0, 0, 0, 0, 0, 0, 0, 0, 0, 0, 0, 0, 0, 0, 0, 0, 0, 0, 0, 0, 0, 0, 0, 0, 0, 0, 0, 0, 0, 0, 0, 0, 0, 0, 0, 0, 0, 0, 0, 0, 0, 0, 0, 0, 0, 0, 0, 0, 0, 0, 0, 0, 0, 0, 0, 0, 0, 0, 0, 0, 0, 0, 0, 0, 0, 0, 0, 0, 0, 0, 0, 0, 0, 0, 0, 0, 0, 0, 0, 99, 130, 83, 99, 53, 1, 1, 55, 3, 1, 3, 6, 255, 0, 0, 0, 0, 0, 0, 0, 0, 0, 0, 0, 0, 0, 0, 0, 0, 0, 0, 0, 0, 0, 0, 0, 0, 0, 0, 0, 0, 0, 0, 0, 0, 0, 0, 0, 0, 0, 0, 0, 0, 0, 0, 0, 0, 0, 0, 0, 0, 0, 0, 0]
def fbs : List V := FB.map fun c => .i .u8 (c.toNat : Int)

section
variable (x : X)
def readB (n : Nat) : Bool := stepR x 97 18 [.sl 16 0 2 2 true] [] [.c [.s tickW, .s (dgN n)] 9 true] (.t [.a [.s tickW, .i .i64 n, .ns], .b true]) 5 [.c [.s tickW, .s (dgN n)] 9 true] []
def readN : Bool := stepR x 97 18 [.sl 16 0 1 1 true] [] [.c [.s nowW] 9 true] (.t [.a [.s nowW, .i .i64 0, .ns], .b true]) 2 [.c [.s nowW] 9 true] []
def textB (n : Nat) : Bool := stepR x 99 7 [.i .i64 n] [] [] (.s (dgN n)) (dgN n).length [] []
def fmtB (n : Nat) : Bool := stepR x 97 23 [.i .i64 n, .i .i64 10] G10 [] (.s (dgN n)) (if n < 100 then 0 else 1) [] []
def tickB (k : Nat) : Bool := stepR x 96 56 [.p 16 0, .i .u32 (k + 1 : Nat)] [] (St k) (if sendB (k + 1) then .sl 171 0 1 1 true else .ns) (if sendB (k + 1) then 159 else 25) (St (k + 1)) (if sendB (k + 1) then [(171, .c [.i .i64 1, .sl 169 0 342 342 true] 120 true), (169, .c fbs 5 true)] else [])
def rho (r : Nat) : Nat := if r < 16 then r else ([92, 93, 94, 177, 179, 180, 184, 186, 187, 174, 183, 185, 173] : List Nat).getD (r - 16) r
def exN : List (Nat × B) := (([92, 93, 94, 177, 179, 180, 184, 186, 187, 174, 183, 185, 173] : List Nat).zip (St 0)).map fun p => (p.1, rnB rho p.2)
def newB_ : Bool := stepR x 98 8 [.a CF] [] [] (.t [.p 92 0, .i .i64 0]) 172 [] exN
def usuB : Bool := stepR x 99 6 [] [] [] (.a CF) 10 [] []
end
end Go.Proofs.YtmcknijenobdaaaGreatDoor.Wb
