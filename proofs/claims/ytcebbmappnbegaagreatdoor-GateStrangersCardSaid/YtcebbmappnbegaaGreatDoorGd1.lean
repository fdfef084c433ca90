/- One act of the world around the gateway: a frame that comes, at most one that goes. -/
import Derived.Test.YtcebbmappnbegaaGreatDoorWj0
import Derived.Test.YtcebbmappnbegaaGreatDoorM5
import Derived.Test.YtcebbmappnbegaaGreatDoorGs4
set_option linter.unusedSimpArgs false
set_option linter.unusedVariables false
set_option linter.unusedSectionVars false
set_option linter.unnecessarySimpa false
set_option maxRecDepth 100000
namespace Go.Am
theorem Has.bx {g : H} {nx : Nat} {l : List (Nat × B)} (a : Has g nx l) (hb : Bd g) {t : TypeId} {u : V} {cs : List V} {κh : V → H → Prop} (hc : cellsOfV u = cs) (K : ∀ g', Bd g' → Has g' (nx + 1) l → g'.mem.get nx = some (.c cs t true) → κh (.p nx 0) g') : pw.bx t u g κh := by
  subst hc
  obtain ⟨rfl, hm⟩ := a
  have f : But g ⟨g.next + 1, g.mem.put g.next (some (.c (cellsOfV u) t true))⟩ none := But.new _ _ _
  exact K _ (f.2.2 hb) ⟨rfl, fun r b h => f.get (hb _ _ (hm r b h)) (by simp) (hm r b h)⟩ get_same
section
variable {x : X} {t : TypeId} {h : H} {κh : V → H → Prop}
theorem al_x {i : TI} (ht : x.tt.get t = some i) (K : ∀ h', h'.next = h.next + 1 → h'.mem.get h.next = some (.c i.zero t true) → But h h' none → κh (.p h.next 0) h') : pw.al x t h κh := by
  show oP (x.tt.get t) _
  rw [ht]
  exact K _ rfl get_same (But.new _ _ _)
theorem s1_x {r o : Nat} {l : List V} {ty : TypeId} {w : V} {κ : H → Prop} (hg : h.mem.get r = some (.c l ty true)) (ho : o < l.length) (hw : oneV w = true) (K : ∀ h', h'.next = h.next → h'.mem.get r = some (.c (l.set o w) ty true) → But h h' (some r) → κ h') : pw.s1 (.p r o) w h κ := by
  rw [s1_p, hg, cellB_some]
  exact ⟨rfl, hw, ho, K _ rfl get_same ⟨Nat.le_refl _, fun q _ hq => by show (h.mem.put r _).get q = _; rw [get_other (fun e => hq (by rw [e]))], (gd_write hg).2⟩⟩
theorem sn_x {r o sz : Nat} {l cs : List V} {ty : TypeId} {w : V} {κ : H → Prop} (hg : h.mem.get r = some (.c l ty true)) (hc : cellsOfV w = cs) (hl : cs.length = sz) (h1 : cs.all oneV = true) (ho : o + sz ≤ l.length) (K : ∀ h', h'.next = h.next → h'.mem.get r = some (.c (l.take o ++ cs ++ l.drop (o + sz)) ty true) → But h h' (some r) → κ h') : pw.sn sz (.p r o) w h κ := by
  subst hc
  rw [sn_p, hg, cellB_some]
  exact ⟨rfl, hl, h1, ho, K _ rfl get_same ⟨Nat.le_refl _, fun q _ hq => by show (h.mem.put r _).get q = _; rw [get_other (fun e => hq (by rw [e]))], (gd_write hg).2⟩⟩
end
end Go.Am
namespace Go.Proofs.YtcebbmappnbegaaGreatDoor.Wb
open Go Go.Am

def actV (op n secs : Int) : List V := [.i .i64 op, .i .i64 n, .i .i64 0, .i .i64 0, .i .i64 0, .i .u32 0, .i .u32 secs, .ns]
abbrev WB : Nat × B := (203, .c [.p 103 0, .p 202 0] 47 true)
/-- Behind the frames: Wan is asked, and noted. -/
theorem wan_ok {x : X} (t27 : x.tt.get 27 = some ⟨.arr 4 5, 4, 4, true, (some [.i, .i, .i, .i]), [.i .u8 0, .i .u8 0, .i .u8 0, .i .u8 0], (.a [.i .u8 0, .i .u8 0, .i .u8 0, .i .u8 0])⟩)
    {g : H} {n3 n4 : Nat} {l3 rest : List (Nat × B)} {env : List V} {te : TypeId} {i0 i1 i2 i3 : Int} {has : Bool} (a : Has g n3 l3) (w3 : WB ∈ l3)
    (s4 : stepB (mkX Tryz.prog) 97 21 [.p 103 0] n3 l3 (.t [.a [.i .u8 i0, .i .u8 i1, .i .u8 i2, .i .u8 i3], .b has]) n4 (WB :: (202, .c env te true) :: rest) = true) (hr : ∀ p ∈ rest, p.1 ≠ 202) (hl : 77 ≤ env.length)
    {o : V} {K : V → H → Prop} (k : ∀ g', Bd g' → Has g' (n4 + 1) (WB :: (202, .c ((env.take 72 ++ [V.i .u8 i0, V.i .u8 i1, V.i .u8 i2, V.i .u8 i3] ++ env.drop 76).set 76 (.b has)) te true) :: rest) → K o g') :
    F23_9 pw x (Ok Tryz.prog 97) K (.p 203 0) o g := by
  unfold F23_9
  simp only [nl_p, fa_p, Nat.zero_add]
  rw [l1_a (a.mem _ _ w3) (x := .p 103 0) rfl]
  simp only [cf_k]
  refine ok_step s4 a fun g1 hb1 a1 _ => ?_
  simp only [ex_t, List.getElem?_cons_zero, List.getElem?_cons_succ, oP_some]
  have e1 := a1.mem _ _ (List.mem_cons_self)
  have e2 := a1.mem 202 _ (List.mem_cons_of_mem _ List.mem_cons_self)
  have b1 := hb1 _ _ e1
  have b2 := hb1 _ _ e2
  have hn1 := a1.next
  refine al_x t27 fun g2 n2 m2 f2 => ?_
  refine sn_x m2 (cs := [.i .u8 i0, .i .u8 i1, .i .u8 i2, .i .u8 i3]) rfl rfl rfl (by simp) fun g3 n3' m3 f3 => ?_
  try simp only [nl_p, fa_p, Nat.zero_add]
  have c1 := f3.get (by omega) (fun e => by have := Option.some.inj e; omega) (f2.get b1 (by simp) e1)
  have c2 := f3.get (by omega) (fun e => by have := Option.some.inj e; omega) (f2.get b2 (by simp) e2)
  rw [l1_a c1 (x := .p 202 0) rfl, l1_a c1 (x := .p 202 0) rfl]
  rw [ln_a m3 (by simp)]
  simp only [nl_p, fa_p, Nat.zero_add]
  refine sn_x c2 (cs := [.i .u8 i0, .i .u8 i1, .i .u8 i2, .i .u8 i3]) rfl rfl rfl (by omega) fun g4 n4' m4 f4 => ?_
  refine s1_x m4 (by simp; omega) rfl fun g5 n5' m5 f5 => ?_
  refine k g5 (f5.2.2 (f4.2.2 (f3.2.2 (f2.2.2 hb1)))) ⟨by omega, fun r b hm => ?_⟩
  have key : ∀ r b, r ≠ 202 → (r, b) ∈ (WB :: (202, B.c env te true) :: rest) → g5.mem.get r = some b := fun r b hr hm => by
    have q1 := a1.mem r b hm
    have q2 := hb1 _ _ q1
    exact f5.get (by omega) (fun e => hr (Option.some.inj e)) (f4.get (by omega) (fun e => hr (Option.some.inj e)) (f3.get (by omega) (fun e => by have := Option.some.inj e; omega) (f2.get q2 (by simp) q1)))
  rcases List.mem_cons.1 hm with e | hm
  · cases e
    exact key 203 _ (by decide) List.mem_cons_self
  rcases List.mem_cons.1 hm with e | hm
  · cases e
    exact m5
  · exact key r b (hr _ hm) (List.mem_cons_of_mem _ (List.mem_cons_of_mem _ hm))
end Go.Proofs.YtcebbmappnbegaaGreatDoor.Wb
