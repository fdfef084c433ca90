/- Promises over the machine: slices of flat entries (structs and arrays of integers) among a law's arguments. -/
import Derived.Test.YtfkbofbdonmpfaaM4
import Derived.Deep.Slices
import Derived.OpenShut
set_option linter.unusedSimpArgs false
set_option linter.unusedVariables false
set_option linter.unusedSectionVars false
set_option linter.unnecessarySimpa false
namespace Go.Am
open Go.ChangeShapes Go.WideShapes Go.ChangeAt Go.RowKit
inductive IntsAs : List IntKind → List Value → Prop
 | nil : IntsAs [] []
 | cons {k : IntKind} {n : Int} {ks : List IntKind} {cs : List Value} : (Lit.int k n).wf = true → IntsAs ks cs → IntsAs (k :: ks) (.int k n :: cs)
theorem IntsAs.app {ks ks' : List IntKind} {cs cs' : List Value} (h : IntsAs ks cs) (h' : IntsAs ks' cs') : IntsAs (ks ++ ks') (cs ++ cs') := by
 induction h with
 | nil => exact h'
 | cons hw _ ih => exact .cons hw ih
theorem IntsAs.len {ks : List IntKind} {cs : List Value} (h : IntsAs ks cs) : cs.length = ks.length := by
 induction h with
 | nil => rfl
 | cons _ _ ih => simp [ih]
section
variable {H' : Type} {enc : TypeId × Value → H'} {P : Program} {w : World} {base : Nat} {spare : Nat → Bool} {held : Bool}
def FlatT (P : Program) (t : TypeId) (ks : List IntKind) : Prop := ∀ {H' : Type} {enc : TypeId × Value → H'} {w : World} {base : Nat} {spare : Nat → Bool} {held : Bool} {fuel : Nat} {cs : List Value} {x : DataW H' × List MemPlace}, DataW.trod enc P w base spare held fuel t cs = some x → IntsAs ks cs
theorem flat_int {t : TypeId} {k : IntKind} (ht : P.underlying t = some (.int k)) : FlatT P t [k] := by
 intro H' enc w base spare held fuel cs x h
 obtain ⟨n, rfl, _, hw⟩ := DataW.trod_int ht h
 exact .cons hw .nil
theorem ints_rep {ks : List IntKind} : ∀ (n : Nat) {cs : List Value}, cs.length = n * ks.length → (∀ i, i < n → IntsAs ks ((cs.drop (i * ks.length)).take ks.length)) → IntsAs (List.replicate n ks).flatten cs
 | 0, cs, hl, _ => by
  rw [Nat.zero_mul] at hl
  rw [List.length_eq_zero_iff.1 hl]
  exact .nil
 | n + 1, cs, hl, h => by
  have h0 := h 0 (by omega)
  rw [Nat.zero_mul, List.drop_zero] at h0
  have h1 := ints_rep (ks := ks) n (cs := cs.drop ks.length) (by rw [List.length_drop, hl, Nat.add_mul]; omega) fun i hi => by
   have := h (i + 1) (by omega)
   rw [List.drop_drop, show ks.length + i * ks.length = (i + 1) * ks.length by rw [Nat.add_mul]; omega]
   exact this
  have := h0.app h1
  rw [List.take_append_drop] at this
  rw [List.replicate_succ, List.flatten_cons]
  exact this
theorem flat_arr {t e : TypeId} {n : Nat} {ks : List IntKind} (ht : P.underlying t = some (.array n e)) (he : FlatT P e ks) (hc : P.cellsOf e = ks.length) (hc2 : P.cellsOf t = n * ks.length) : FlatT P t (List.replicate n ks).flatten := by
 intro H' enc w base spare held fuel cs x h
 obtain ⟨xs, m, rfl, rfl, hl, hxl, hx⟩ := DataW.trod_array ht h
 refine ints_rep n (by omega) fun i hi => ?_
 have := hx i hi
 rw [List.getElem?_eq_getElem (by omega), hc] at this
 exact he this
inductive Tile (P : Program) : List Field → Nat → List IntKind → Prop
 | nil {off : Nat} : Tile P [] off []
 | cons {f : Field} {fs : List Field} {off : Nat} {ks ks' : List IntKind} : f.offset = off → P.cellsOf f.type = ks.length → FlatT P f.type ks → Tile P fs (off + ks.length) ks' → Tile P (f :: fs) off (ks ++ ks')
theorem tile_ints {fs : List Field} {off : Nat} {ks : List IntKind} (ht : Tile P fs off ks) {n : Nat} {cs : List Value} (hl : cs.length = off + ks.length) (h : ∀ f ∈ fs, ∃ y : DataW H' × List MemPlace, DataW.trod enc P w base spare held n f.type ((cs.drop f.offset).take (P.cellsOf f.type)) = some y) : IntsAs ks (cs.drop off) := by
 induction ht with
 | nil =>
  rw [List.drop_of_length_le (by simp at hl; omega)]
  exact .nil
 | @cons f fs off ks ks' h1 h2 h3 _ ih =>
  obtain ⟨y, hy⟩ := h f (by simp)
  rw [h1, h2] at hy
  have a := h3 hy
  have b := ih (by rw [hl, List.length_append]; omega) fun g hg => h g (by simp [hg])
  have := a.app b
  rw [← List.drop_drop, List.take_append_drop] at this
  exact this
theorem flat_struct {t : TypeId} {fs : Array Field} {ks : List IntKind} (ht : P.underlying t = some (.struct fs)) (hc : P.cellsOf t = ks.length) (hti : Tile P fs.toList 0 ks) : FlatT P t ks := by
 intro H' enc w base spare held fuel cs x h
 obtain ⟨xs, n, rfl, rfl, hl, hxl, hx⟩ := DataW.trod_struct ht h
 have := tile_ints (enc := enc) (w := w) (base := base) (spare := spare) (held := held) (n := n) hti (cs := cs) (by omega) fun f hf => by
  obtain ⟨i, hi, rfl⟩ := List.mem_iff_getElem.1 hf
  have hi' : i < fs.size := by simpa using hi
  have := hx i fs[i] (by simp [hi'])
  rw [List.getElem?_eq_getElem (by omega)] at this
  exact ⟨_, by simpa using this⟩
 rw [List.drop_zero] at this
 exact this
def vOf : Value → V
 | .int k n => .i k n
 | _ => .np
def FlatAt (h : H) (sz : Nat) (v : V) (es : List (List V)) : Prop := match v with
 | .sl r o n c _ => n = es.length ∧ n ≤ c ∧ ∃ l t w, h.mem.get r = some (.c l t w) ∧ o + n * sz ≤ l.length ∧ ∀ i, i < es.length → (l.drop (o + i * sz)).take sz = es.getD i []
 | .ns => es = []
 | .se _ _ _ => es = []
 | .ze _ => es = []
 | _ => False
theorem ints_v {ks : List IntKind} {cs : List Value} (h : IntsAs ks cs) (i : Nat) {c : Value} (hc : cs[i]? = some c) : ∃ k n, c = .int k n := by
 induction h generalizing i with
 | nil => simp at hc
 | @cons k n ks cs hw _ ih =>
  cases i with
  | zero => simp at hc; exact ⟨k, n, hc.symm⟩
  | succ i => exact ih i (by simpa using hc)
theorem open_flat {t e : TypeId} {ks : List IntKind} {v : Value} {d : DataW H'} {p : List MemPlace} (r : Nat) (ht : P.underlying t = some (.slice e)) (he : FlatT P e ks) (hc : P.cellsOf e = ks.length) (h0 : 0 < ks.length) (hv : v.cells = #[v]) (h : DataW.Trod enc P w 0 (fun _ => true) true t v d p) :
  ∃ (u : V) (es : List (List V)) (q : Option J) (b : Option B), es.length ≤ 9223372036854775807 ∧ (∀ x ∈ es, ∃ cs, IntsAs ks cs ∧ x = cs.map vOf) ∧ Opened w r v u q b ∧ ∀ (m : T B) (nx : Nat), m.get r = b → FlatAt ⟨nx, m⟩ ks.length u es := by
 obtain ⟨n, hn⟩ := h
 rw [hv] at hn
 rcases Go.Deep.open_slice ht hn with ⟨h1, _⟩ | ⟨a, len, cap, m, n', D, Pl, h1, _, h3, h4, h5, _, h7⟩
 ·simp only [List.cons.injEq, and_true] at h1
  subst h1
  exact ⟨.ns, [], none, none, by simp, (fun n hn => by cases hn), ⟨(fun j _ => rfl), (fun j _ b' hb => by cases hb), .inl rfl⟩, fun m nx _ => rfl⟩
 ·simp only [List.cons.injEq, and_true] at h1
  subst h1
  simp only [if_true] at h5
  subst h5
  by_cases hz : m = 0
  ·subst hz
   obtain rfl : len = 0 := by omega
   refine ⟨.ze r, [], some ⟨a.block, a.off, 0, a.spot⟩, none, by simp, (fun n hn => by cases hn), ⟨(fun j hj => ?_), (fun j _ b' hb => by cases hb), .inl rfl⟩, fun m nx _ => rfl⟩
   simp only [Am.ren, hj, Option.map_some]
  ·have hch : ∃ F : Nat → List Value, ∀ i, i < m → IntsAs ks (F i) ∧ ∀ j, j < ks.length → w.cell? ((a.add (i * ks.length)).add j) = (F i)[j]? := by
    obtain ⟨F, hF⟩ := Go.Deep.choose_lt (α := List Value) (n := m) (p := fun i cs => IntsAs ks cs ∧ ∀ j, j < ks.length → w.cell? ((a.add (i * ks.length)).add j) = cs[j]?) fun i hi => by
     obtain ⟨cs', g1, g2⟩ := h7 i hi
     rw [hc] at g1
     obtain ⟨_, hlen, hcell⟩ := World.cells?_some g1
     exact ⟨cs', he g2, fun j hj => hcell j hj⟩
    exact ⟨F, hF⟩
   obtain ⟨F0, hF0⟩ := hch
   obtain ⟨F, hF, hI⟩ : ∃ F : Nat → List Value, (∀ i, i < m → ∀ j, j < ks.length → w.cell? ((a.add (i * ks.length)).add j) = (F i)[j]?) ∧ ∀ i, IntsAs ks (F i) := by
    refine ⟨fun i => if i < m then F0 i else F0 0, fun i hi j hj => ?_, fun i => ?_⟩
    ·simp only [if_pos hi]; exact (hF0 i hi).2 j hj
    ·simp only
     split
     ·exact (hF0 i (by assumption)).1
     ·exact (hF0 0 (by omega)).1
   have hs : ∀ i, ((F i).map vOf).length = ks.length := fun i => by rw [List.length_map, (hI i).len]
   have hL := encs_len hs (List.range m)
   rw [List.length_range] at hL
   have cell0 := hF 0 (by omega) 0 h0
   have hlen0 := (hI 0).len
   rw [List.getElem?_eq_getElem (by omega)] at cell0
   obtain ⟨c1, c2⟩ := cell_lt' cell0
   rw [show (a.add (0 * ks.length)).add 0 = a by simp [Addr.add]] at c1 c2
   refine ⟨.sl r 0 len m false, (List.range len).map fun i => (F i).map vOf, some ⟨a.block, a.off, 0, none⟩, some (.c (encs (fun i => (F i).map vOf) (List.range m)) e false), by simp only [List.length_map, List.length_range]; unfold maxLen at h4; omega, fun x hx => ?_, ⟨fun j hj => ?_, fun j hj b' hb => ?_, .inr rfl⟩, fun mm nx hm => ?_⟩
   ·obtain ⟨i, _, rfl⟩ := List.mem_map.1 hx
    exact ⟨F i, hI i, rfl⟩
   ·simp only [Am.ren, hj, Option.map_some, cond_false, Nat.add_zero]
    obtain ⟨ab, ao, as⟩ := a
    simp only at c2
    subst c2
    rfl
   ·cases hb
    refine ⟨_, e, _, rfl, rfl, c1, fun I u hu => ?_⟩
    have hIl := (List.getElem?_eq_some_iff.1 hu).1
    rw [hL] at hIl
    have hi : I / ks.length < m := Nat.div_lt_of_lt_mul (by rw [Nat.mul_comm]; exact hIl)
    have hj2 : I % ks.length < ks.length := Nat.mod_lt _ h0
    have hIe : I / ks.length * ks.length + I % ks.length = I := by rw [Nat.mul_comm]; exact Nat.div_add_mod _ _
    have hg := encs_get hs (List.range m) (I / ks.length) (I % ks.length) (by simpa using hi) hj2
    rw [hIe, hu, List.getElem_range, List.getElem?_map] at hg
    obtain ⟨c, hc1, rfl⟩ := Option.map_eq_some_iff.1 hg.symm
    obtain ⟨k, n, rfl⟩ := ints_v (hI _) _ hc1
    refine ⟨.int k n, ?_, rfl⟩
    have := hF _ hi _ hj2
    rw [hc1] at this
    obtain ⟨ab, ao, as⟩ := a
    simp only at c2
    subst c2
    rw [addr_add, addr_add, Nat.add_assoc, hIe] at this
    exact this
   ·refine ⟨by simp, h3, _, e, false, hm, by rw [hL, Nat.zero_add]; exact Nat.mul_le_mul_right _ h3, fun i hi => ?_⟩
    rw [List.length_map, List.length_range] at hi
    rw [Nat.zero_add, encs_at hs (List.range m) i (by simp; omega), List.getElem_range, List.getD_eq_getElem?_getD, List.getElem?_map, List.getElem?_eq_getElem (by simpa using hi), List.getElem_range]
    rfl
end
structure AtF (h : H) (b o sz : Nat) (cs : List V) : Prop where
 len : cs.length = sz
 mem : ∃ l ty w, h.mem.get b = some (.c l ty w) ∧ o + sz ≤ l.length ∧ (l.drop o).take sz = cs
theorem AtF.get {h : H} {b o sz : Nat} {cs : List V} (a : AtF h b o sz cs) {f : Nat} {x : V} (hx : cs[f]? = some x) {κ : V → Prop} : pw.l1 (.p b (o + f)) h κ = κ x := by
 obtain ⟨hl, l, ty, w, h1, h2, h3⟩ := a
 have hf := (List.getElem?_eq_some_iff.1 hx).1
 rw [l1_p, h1, cellB_some]
 have : l[o + f]? = some x := by
  rw [← hx, ← h3, List.getElem?_take, if_pos (by omega), List.getElem?_drop]
 rw [this, oP_some]
theorem AtF.getn {h : H} {b o sz : Nat} {cs : List V} (a : AtF h b o sz cs) {f n : Nat} (hx : f + n ≤ sz) {κ : V → Prop} : pw.ln n (.p b (o + f)) h κ = κ (.a ((cs.drop f).take n)) := by
 obtain ⟨hl, l, ty, w, h1, h2, h3⟩ := a
 rw [ln_p, h1, cellB_some, ← h3]
 have e : ((List.take sz (List.drop o l)).drop f).take n = (l.drop (o + f)).take n := by
  rw [List.drop_take, List.take_take, List.drop_drop, Nat.min_eq_left (by omega)]
 rw [e]
 simp only [show o + f + n ≤ l.length by omega, true_and]
theorem AtF.all {h : H} {b o sz : Nat} {cs : List V} (a : AtF h b o sz cs) {κ : V → Prop} : pw.ln sz (.p b o) h κ = κ (.a cs) := by
 have := a.getn (f := 0) (n := sz) (by omega) (κ := κ)
 rw [Nat.add_zero, List.drop_zero, List.take_of_length_le (by rw [a.len]; exact Nat.le_refl _)] at this
 exact this
theorem flat_len {x : X} {t el : TypeId} {i : TI} (ht : x.tt.get t = some i) (hk : i.k = .sl el) {h : H} {sz : Nat} {v : V} {es : List (List V)} (hb : FlatAt h sz v es) {κ : V → Prop} : pw.ls x t v κ = κ (.i .i64 es.length) := by
 unfold FlatAt at hb
 split at hb
 ·obtain ⟨rfl, _⟩ := hb
  exact ls_sl ht hk
 all_goals first | (subst hb; simp only [pw, ti_some _ ht, lenP, hk, oP, List.length_nil]; rfl) | exact hb.elim
theorem flat_at {h : H} {v : V} {sz : Nat} {es : List (List V)} (hv : FlatAt h sz v es) {m : Int} {i : Nat} (hm : m = i) (hi : i < es.length) {cs : List V} (he : es.getD i [] = cs) (hl : cs.length = sz) {k : IntKind} {κ : V → Prop} (K : ∀ b o, AtF h b o sz cs → κ (.p b o)) : pw.is sz v (.i k m) κ := by
 subst hm
 unfold FlatAt at hv
 split at hv
 ·rename_i r o n c e
  obtain ⟨rfl, _, l, t, w, hg, hle, hx⟩ := hv
  rw [is_sl (by omega), Int.toNat_natCast]
  have h2 : i * sz + sz ≤ es.length * sz := by rw [← Nat.add_one_mul]; exact Nat.mul_le_mul_right _ hi
  exact K r _ ⟨hl, l, t, w, hg, by omega, by rw [hx i hi, he]⟩
 all_goals first | (subst hv; simp at hi) | exact hv.elim
theorem FlatAt.lt {h : H} {sz : Nat} {v : V} {es : List (List V)} (hb : FlatAt h sz v es) (hd : Bd h) : ∀ q, vblk v = some q → q < h.next := by
 intro q hq
 cases v with
 | sl r o n c e =>
  obtain ⟨h1, h1', l, t, w, h2, h3⟩ := hb
  cases hq
  exact hd _ _ h2
 | _ => cases hq
theorem FlatAt.keep {h h' : H} {sz : Nat} {v : V} {es : List (List V)} {b : Option Nat} (hb : FlatAt h sz v es) (hd : ∀ q, vblk v = some q → q < h.next) (hk : But h h' b) (hq : vblk v ≠ b ∨ b = none) : FlatAt h' sz v es := by
 cases v with
 | sl r o n c e =>
  obtain ⟨h1, h1', l, t, w, h2, h3⟩ := hb
  refine ⟨h1, h1', l, t, w, hk.get (hd _ rfl) ?_ h2, h3⟩
  rcases hq with hq | hq
  ·exact hq
  ·rw [hq]; simp
 | _ => exact hb
theorem FlatAt.keep2 {h h' : H} {sz : Nat} {v : V} {es : List (List V)} {r : Nat} {b : Option Nat} (hb : FlatAt h sz v es) (hd : ∀ q, vblk v = some q → q < h.next ∧ q ≠ r ∧ b ≠ some q) (hk : But2 h h' r b) : FlatAt h' sz v es := by
 cases v with
 | sl p o n c e =>
  obtain ⟨h1, h1', l, t, w, h2, h3⟩ := hb
  obtain ⟨a1, a2, a3⟩ := hd _ rfl
  exact ⟨h1, h1', l, t, w, hk.get a1 a2 (fun e => a3 e.symm) h2, h3⟩
 | _ => exact hb
end Go.Am
