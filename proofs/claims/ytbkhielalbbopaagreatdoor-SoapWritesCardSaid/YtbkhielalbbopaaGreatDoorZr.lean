/- A law's row where an integer's variable, a table and a sentinel are laid, and a slice of texts stands among the arguments. -/
import Derived.Test.YtbkhielalbbopaaGreatDoorZf5
import Derived.Test.YtbkhielalbbopaaGreatDoorM5
import Derived.Test.YtbkhielalbbopaaGreatDoorM4
import Derived.Stop.LaidErr
import Derived.Deep.Slices
import Derived.ChangeArms
set_option linter.unusedSimpArgs false
set_option linter.unusedVariables false
set_option linter.unusedSectionVars false
set_option linter.unnecessarySimpa false
namespace Go.Am
open Go.ChangeShapes Go.WideShapes Go.ChangeAt Go.RowKit
open Go.Proofs.YtbkhielalbbopaaGreatDoor.Wb

/-- Where the variables lie, an error's block, an argument's. -/
def j2 (c d : Nat) (q : Option J) : Inj := fun r => if r < 16 then some ⟨r, 0, 0, none⟩ else if r = 16 then some ⟨c, d, 0, none⟩ else if r = 17 then q else none
theorem j2_go (c d : Nat) (q : Option J) : GO (j2 c d q) := fun g hg => by unfold j2; rw [if_pos hg]

/-- An integer in variable g, a table in variable t, a pointer behind an interface in variable e, an argument's block. -/
def mem4 (g : Nat) (m : Int) (t : Nat) (zs : List Int) (e : Nat) (tp : TypeId) (b : Option B) : T B := (((T.l.put 17 b).put e (some (.c [.ic tp (.p 16 0)] 0 false))).put t (some (.c (zs.map (V.i .u64)) 0 false))).put g (some (.c [.i .i64 m] 0 false))

theorem hrel_four (P : Program) (w : World) {g t e : Nat} {m : Int} {zs : List Int} {tp : TypeId} {a : Addr} {v : Value} {u : V} {q : Option J} {b : Option B} (hg : g < 16) (ht : t < 16) (he : e < 16) (hs : a.spot = none) (h1 : w.cell? ⟨g, 0, none⟩ = some (.int .i64 m)) (h2 : w.cell? ⟨e, 0, none⟩ = some (.iface tp (.pointer (some a))))
    (h3 : LaidAt w [(t, .u64, zs)]) (o : Opened w 17 v u q b) : HRel P w.heap.size (j2 a.block a.off q) ⟨18, mem4 g m t zs e tp b⟩ w := by
  refine HRel.args P w 18 _ _ (j2_go _ _ _) fun r c hc => ?_
  unfold mem4 at hc
  rw [T.get_put] at hc
  by_cases r1 : g = r
  · rw [if_pos r1] at hc
    cases hc
    subst r1
    refine ⟨by omega, _, _, ⟨g, 0, 0, none⟩, rfl, j2_go _ _ _ g hg, laid_lt h1, fun i x hx => ?_⟩
    match i, hx with
    | 0, hx => cases hx; exact ⟨_, h1, rfl⟩
    | i + 1, hx => simp at hx
  rw [if_neg r1, T.get_put] at hc
  by_cases r2 : t = r
  · rw [if_pos r2] at hc
    cases hc
    subst r2
    obtain ⟨_, h4, h5⟩ := h3 _ (List.mem_cons_self ..)
    have hz : ∃ z, zs[0]? = some z := by
      cases zs with
      | nil => exact absurd rfl h4
      | cons z zs => exact ⟨z, rfl⟩
    obtain ⟨z0, hz⟩ := hz
    refine ⟨by omega, _, _, ⟨t, 0, 0, none⟩, rfl, j2_go _ _ _ t ht, laid_lt (h5 0 z0 hz), fun i x hx => ?_⟩
    rw [List.getElem?_map] at hx
    obtain ⟨z, hz', rfl⟩ := Option.map_eq_some_iff.1 hx
    exact ⟨_, by rw [Nat.zero_add]; exact h5 i z hz', rfl⟩
  rw [if_neg r2, T.get_put] at hc
  by_cases r3 : e = r
  · rw [if_pos r3] at hc
    cases hc
    subst r3
    refine ⟨by omega, _, _, ⟨e, 0, 0, none⟩, rfl, j2_go _ _ _ e he, laid_lt h2, fun i x hx => ?_⟩
    match i, hx with
    | 0, hx =>
      cases hx
      refine ⟨_, h2, ?_⟩
      obtain ⟨c, d, s⟩ := a
      cases hs
      rfl
    | i + 1, hx => simp at hx
  rw [if_neg r3, T.get_put] at hc
  by_cases r4 : 17 = r
  · rw [if_pos r4] at hc
    subst r4
    obtain ⟨l, ty, q', h6, h7, h8, h9⟩ := o.blk (j2 a.block a.off q) rfl c hc
    exact ⟨by omega, l, ty, q', h6, h7, h8, h9⟩
  · rw [if_neg r4] at hc
    simp [T.get] at hc

/-- A slice of texts among the arguments: at block number 'r'. -/
theorem open_strs {H' : Type} {enc : TypeId × Value → H'} {P : Program} {w : World} {t e : TypeId} {v : Value} {d : DataW H'} {p : List MemPlace} (r : Nat) (ht : P.underlying t = some (.slice e)) (he : P.underlying e = some .string) (hc : P.cellsOf e = 1) (hv : v.cells = #[v]) (h : DataW.Trod enc P w 0 (fun _ => true) true t v d p) :
    ∃ (u : V) (ss : List (List UInt8)) (q : Option J) (b : Option B), Opened w r v u q b ∧ ∀ (m : T B) (nx : Nat), m.get r = b → r < nx → StrsAt ⟨nx, m⟩ u ss := by
  obtain ⟨n, hn⟩ := h
  rw [hv] at hn
  rcases Go.Deep.open_slice ht hn with ⟨h1, _⟩ | ⟨a, len, cap, m, n', D, Pl, h1, _, h3, h4, h5, _, h7⟩
  · simp only [List.cons.injEq, and_true] at h1
    subst h1
    exact ⟨.ns, [], none, none, ⟨(fun j _ => rfl), (fun j _ b' hb => by cases hb), .inl rfl⟩, fun m nx _ _ => rfl⟩
  · simp only [List.cons.injEq, and_true] at h1
    subst h1
    simp only [if_true] at h5
    subst h5
    by_cases hz : m = 0
    · subst hz
      obtain rfl : len = 0 := by omega
      refine ⟨.ze r, [], some ⟨a.block, a.off, 0, a.spot⟩, none, ⟨(fun j hj => ?_), (fun j _ b' hb => by cases hb), .inl rfl⟩, fun m nx _ _ => rfl⟩
      simp only [Am.ren, hj, Option.map_some]
    · obtain ⟨F, hF⟩ := Go.Deep.choose_lt (α := ByteArray) (n := m) (p := fun i s => w.cell? (a.add i) = some (.string s)) fun i hi => by
        obtain ⟨cs', g1, g2⟩ := h7 i hi
        rw [hc, Nat.mul_one] at g1
        obtain ⟨_, hlen, hcell⟩ := World.cells?_some g1
        obtain ⟨s, e1, _, _⟩ := DataW.trod_string he g2
        have := hcell 0 (by omega)
        rw [e1] at this
        exact ⟨s, by simpa [Addr.add] using this⟩
      obtain ⟨c1, c2⟩ := cell_lt' (hF 0 (by omega))
      rw [show a.add 0 = a by simp [Addr.add]] at c1 c2
      refine ⟨.sl r 0 len m false, (List.range len).map fun i => (F i).data.toList, some ⟨a.block, a.off, 0, none⟩, some (.c ((List.range m).map fun i => V.s (F i).data.toList) e false), ⟨fun j hj => ?_, fun j hj b' hb => ?_, .inr rfl⟩, fun mm nx hm hr => ?_⟩
      · simp only [Am.ren, hj, Option.map_some, cond_false, Nat.add_zero]
        obtain ⟨ab, ao, asp⟩ := a
        simp only at c2
        subst c2
        rfl
      · cases hb
        refine ⟨_, e, _, rfl, rfl, c1, fun i u hu => ?_⟩
        rw [List.getElem?_map] at hu
        obtain ⟨k, h9, rfl⟩ := Option.map_eq_some_iff.1 hu
        have hi := (List.getElem?_eq_some_iff.1 h9).1
        rw [List.length_range] at hi
        rw [List.getElem?_range hi] at h9
        cases h9
        refine ⟨.string (F i), ?_, ?_⟩
        · have := hF i hi
          obtain ⟨ab, ao, asp⟩ := a
          simp only at c2
          subst c2
          rw [addr_add] at this
          exact this
        · generalize F i = s
          obtain ⟨⟨l⟩⟩ := s
          rfl
      · refine ⟨by simp, h3, _, e, false, hm, by simp; omega, hr, fun i hi => ?_⟩
        rw [List.length_map, List.length_range] at hi
        rw [Nat.zero_add, List.getElem?_map, List.getElem?_range (by omega), List.getD_eq_getElem?_getD, List.getElem?_map, List.getElem?_range hi]
        rfl
end Go.Am
