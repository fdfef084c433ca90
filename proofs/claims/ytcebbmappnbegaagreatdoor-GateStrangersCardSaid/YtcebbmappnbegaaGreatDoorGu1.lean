/- The gateway's start, anywhere. -/
import Derived.Test.YtcebbmappnbegaaGreatDoorGu0
import Derived.Test.YtcebbmappnbegaaGreatDoorAwG
import Derived.Test.YtcebbmappnbegaaGreatDoorGs5
set_option linter.unusedSimpArgs false
set_option linter.unusedVariables false
set_option linter.unusedSectionVars false
set_option linter.unnecessarySimpa false
set_option maxRecDepth 100000
namespace Go.Proofs.YtcebbmappnbegaaGreatDoor.Wb
open Go Go.Am Go.Proofs.YtcebbmappnbegaaGreatDoor.Facts

theorem awake_ok {g : H} {K : V → H → Prop} (hg : 16 ≤ g.next) (k : ∀ g', Bd g' → But g g' none → K (.b true) g') : Ok Tryz.prog 99 18 [] g K := by
  have h := aw
  cases e : sem (mkX Tryz.prog) 100000 99 18 [] ⟨16, .l⟩ with
  | none => rw [e] at h; cases h
  | some p =>
    obtain ⟨v, h'⟩ := p
    rw [e] at h
    simp only [Option.map_some, Option.some.injEq] at h
    subst h
    exact ok_known e (Nat.le_refl 16) hg fun g' hb f _ => k g' hb f
def gateL : List V := [.i .u8 192, .i .u8 168, .i .u8 1, .i .u8 1, .i .u8 192, .i .u8 168, .i .u8 1, .i .u8 0, .i .i64 24, .i .u8 2, .i .u8 0, .i .u8 0, .i .u8 0, .i .u8 0, .i .u8 1, .i .u8 2, .i .u8 0, .i .u8 0, .i .u8 0, .i .u8 0, .i .u8 2, .i .u8 192, .i .u8 168, .i .u8 1, .i .u8 100, .i .u8 192, .i .u8 168, .i .u8 1, .i .u8 131, .i .i64 3600, .i .u8 9, .i .u8 9, .i .u8 9, .i .u8 9, .i .i64 120, .i .i64 7200, .i .i64 30, .i .i64 40000, .ns, .ns, .i .i64 1, .i .u32 5, .p 104 0, .p 1341 0, .p 188 0, .p 190 0, .p 191 0, .p 195 0, .p 197 0, .p 198 0, .ns]
theorem up_ok {g : H} {K : V → H → Prop} (hg : 16 ≤ g.next) (k : ∀ g' W G gl, Bd g' → But g g' none → Gw g' W G gl → K (.p W 0) g') : Ok Tryz.prog 99 20 [] g K := by
  obtain ⟨v, h', e, _, _, hv, ha⟩ := upOk fun r b hb => by simp [Go.Am.T.get] at hb
  subst hv
  have hw : h'.mem.get 203 = some (.c [.p 103 0, .p 202 0] 47 true) := ha.mem 203 _ (List.mem_of_getElem? (i := 0) rfl)
  have hgl : h'.mem.get 103 = some (.c gateL 166 true) := ha.mem 103 _ (List.mem_of_getElem? (i := 2) rfl)
  refine ok_known e (Nat.le_refl 16) hg fun g' hb f hm => ?_
  have w1 := hm 203 _ hw
  have w2 := hm 103 _ hgl
  exact k g' _ (jS 16 g.next 103) (gateL.map (rn (jS 16 g.next))) hb f ⟨⟨_, _, w1⟩, ⟨_, w2⟩, rfl, rfl, rfl, rfl, hb _ _ w1, hb _ _ w2⟩
theorem u8_of {z : Int} (h : 0 ≤ z ∧ z ≤ 255) : ((UInt8.ofNat z.toNat).toNat : Int) = z := by
  rw [UInt8.toNat_ofNat']; omega
theorem to6 {c0 c1 c2 c3 c4 c5 : Int} (h : ∀ z ∈ [c0, c1, c2, c3, c4, c5], 0 ≤ z ∧ z ≤ 255) : ∃ ts : List UInt8, ts.length = 6 ∧ u8s ts = [.i .u8 c0, .i .u8 c1, .i .u8 c2, .i .u8 c3, .i .u8 c4, .i .u8 c5] := by
  refine ⟨[UInt8.ofNat c0.toNat, UInt8.ofNat c1.toNat, UInt8.ofNat c2.toNat, UInt8.ofNat c3.toNat, UInt8.ofNat c4.toNat, UInt8.ofNat c5.toNat], rfl, ?_⟩
  simp only [u8s, List.map_cons, List.map_nil, u8_of (h c0 (by simp)), u8_of (h c1 (by simp)), u8_of (h c2 (by simp)), u8_of (h c3 (by simp)), u8_of (h c4 (by simp)), u8_of (h c5 (by simp))]
theorem strangers {h : H} (h16 : 16 ≤ h.next) {body : List UInt8} {side t m c0 c1 c2 c3 c4 c5 : Int} {bv : V} (hc : ∀ z ∈ [c0, c1, c2, c3, c4, c5], 0 ≤ z ∧ z ≤ 255) (hb : BytesAt h bv body) (hlen : body.length ≤ 9223372036854775807) :
    Ok Tryz.prog 100 9 [.i .i64 side, .a [.i .u8 c0, .i .u8 c1, .i .u8 c2, .i .u8 c3, .i .u8 c4, .i .u8 c5], .i .i64 t, bv, .i .i64 m] h (fun v _ => v = .b true) := by
  obtain ⟨ts, t6, e⟩ := to6 hc
  rw [← e]
  exact law_ok h16 t6 hb hlen awake_ok up_ok fun _ => rfl
end Go.Proofs.YtcebbmappnbegaaGreatDoor.Wb
