/- The abstract machine: append, against the machine itself. -/
import Derived.Test.YtfkbofbdonmpfaaAm15
set_option linter.unusedSimpArgs false
set_option linter.unusedVariables false
set_option linter.unusedSectionVars false
set_option linter.unnecessarySimpa false
namespace Go.Am
open Go.Instr

section
variable {P : Program} {j : Inj} {base : Nat} {h : H} {w : World}

theorem cells_drawn {q : J} {l : List V} (hc : CellsRel j q l w) (m : Nat) : CellsRel j q l (drawnTo w m) := hc

theorem loadCells_zero (a : Addr) (w : World) : (loadCells a 0).run P w = .ok #[] w := by simp [loadCells, loadCellsFrom]

theorem loadCells_any {q : J} {l vs : List V} {o n : Nat} (hc : CellsRel j q l w) (h : sub l o n = some vs) : ∃ vs', rens j vs = some vs' ∧ (∀ m, (loadCells ⟨q.c, q.d + o, none⟩ n).run P (drawnTo w m) = .ok ⟨vs'⟩ (drawnTo w m)) ∧ vs'.length = n := by
  obtain ⟨vs', a, _, c⟩ := loadCells_run (P := P) hc h
  refine ⟨vs', a, fun m => ?_, c⟩
  obtain ⟨vs2, a2, b2, _⟩ := loadCells_run (P := P) (cells_drawn hc m) h
  rw [a] at a2; cases a2
  exact b2

theorem str_cells (j : Inj) : ∀ l : List UInt8, rens j (l.map fun c => V.i .u8 c.toNat) = some (l.map fun c => Value.int .u8 c.toNat)
  | [] => rfl
  | c :: l => by simp [rens, ren, str_cells j l]

theorem fcells_run {jj : TI} {n : Nat} {v : V} {v' : Value} {cs : List V} (R : HRel P base j h w) (hf : fcells h jj n v = some cs) (hv : ren j v = some v') :
    ∃ cs', rens j cs = some cs' ∧ (∀ m, (Builtin.firstCells jj.sz n v').run P (drawnTo w m) = .ok ⟨cs'⟩ (drawnTo w m)) := by
  unfold fcells at hf
  split at hf
  · simp only [ren, Option.some.injEq] at hv; subst hv
    cases hb : Nat.beq n 0 <;> rw [hb] at hf <;> cases hf
    exact ⟨[], rfl, fun m => by simp [Builtin.firstCells]⟩
  · rename_i r o' o
    simp only [ren, Option.map_eq_some_iff] at hv
    obtain ⟨q, hq, rfl⟩ := hv
    cases hb : Nat.beq n 0 <;> rw [hb] at hf <;> cases hf
    refine ⟨[], rfl, fun m => ?_⟩
    rw [Nat.eq_of_beq_eq_true hb]
    simp [Builtin.firstCells, loadCells_zero]
  · rename_i r
    simp only [ren, Option.map_eq_some_iff] at hv
    obtain ⟨q, hq, rfl⟩ := hv
    cases hb : Nat.beq n 0 <;> rw [hb] at hf <;> cases hf
    refine ⟨[], rfl, fun m => ?_⟩
    rw [Nat.eq_of_beq_eq_true hb]
    simp [Builtin.firstCells, loadCells_zero]
  · rename_i l
    simp only [ren, Option.some.injEq] at hv; subst hv
    cases hf
    refine ⟨_, str_cells j _, fun m => ?_⟩
    simp [Builtin.firstCells, ByteArray.extract, ByteArray.copySlice]
  · rename_i r o n1 cap el
    simp only [ren, Option.map_eq_some_iff] at hv
    obtain ⟨q, hq, rfl⟩ := hv
    cases hr : h.mem.get r with
    | none => simp [hr] at hf
    | some b =>
      cases b <;> simp only [hr, reduceCtorEq] at hf
      rename_i l ty own
      obtain ⟨vs', a, b, _⟩ := loadCells_any (P := P) (R.blk r _ q hr hq).1 hf
      exact ⟨vs', a, fun m => by simp only [Builtin.firstCells]; exact b m⟩
  · cases hf

theorem lenV_run {v : V} {v' : Value} {n : Nat} (hl : lenV v = some n) (hv : ren j v = some v') (w : World) : (Builtin.lenOf v').run P w = .ok n w := by
  unfold lenV at hl
  split at hl <;> simp only [reduceCtorEq, Option.some.injEq] at hl <;> subst hl <;> simp only [ren, Option.some.injEq, Option.map_eq_some_iff] at hv
  · subst hv; simp [Builtin.lenOf]
  · obtain ⟨q, _, rfl⟩ := hv; simp [Builtin.lenOf]
  · obtain ⟨q, _, rfl⟩ := hv; simp [Builtin.lenOf]
  · obtain ⟨q, _, rfl⟩ := hv; simp [Builtin.lenOf]
  · subst hv; simp [Builtin.lenOf, ByteArray.size]

/-- What the new row holds. -/
theorem brel_grown {j' : Inj} {l : List V} {l' : List Value} {z : Array Value} {ty : TypeId} {e : Nat} {v : World} (hb : base ≤ v.heap.size) (h : rens j' l = some l') (hz : z.size = P.cellsOf ty) :
    BRel P j' base ⟨v.heap.size, 0, e, none⟩ (.c l ty true) (push v (.cells (⟨l'⟩ ++ Builtin.zeroCells z e) ty)) := by
  have hl := rens_length h
  refine ⟨fun i u hu => ?_, ?_⟩
  · obtain ⟨u', h1, h2⟩ := rens_get h hu
    refine ⟨u', ?_, h2⟩
    have hlt := (List.getElem?_eq_some_iff.1 h1).1
    simp only [World.cell?, push_get, if_true, Option.isSome_none, Bool.false_eq_true, if_false, Nat.zero_add]
    rw [Array.getElem?_append_left (by simpa using hlt)]
    simpa using h1
  · rw [if_pos rfl]
    refine ⟨hb, _, (0, 0), by rw [push_get, if_pos rfl], .inl rfl, ?_⟩
    simp [Builtin.zeroCells, hz]; omega

theorem grow_step {t t' ty el : TypeId} {ie : TI} (ke : TIok P el ie) (hd : P.underlying t = some (.slice el)) {a0 : Option Addr} {sLen sCap n : Nat} {x' : Value} {cs old : List V} {cs' old' : List Value} (S : AppSrc P w t' el ie.sz x' n cs')
    (R : HRel P base j h w) (kill : Option Nat) (hk : ∀ r, kill = some r → ∃ q, j r = some q) (hcs : rens j cs = some cs') (hold : rens j old = some old') (hf : j h.next = none)
    (hb : (sLen + n) * ie.by_ ≤ 1099511627776) (hm : sLen + n ≤ 1099511627776) (hgt : sCap < sLen + n)
    (ho : ∀ m, (Builtin.firstCells ie.sz sLen (.slice a0 sLen sCap)).run P (drawnTo w m) = .ok ⟨old'⟩ (drawnTo w m)) :
    ∃ j' v' w', (Builtin.append_ #[t, t'] ty #[.slice a0 sLen sCap, x']).run P w = .ok v' w' ∧
      Step P base j h w j' ⟨h.next + 1, (struck h.mem kill).put h.next (some (.c (old ++ cs) el true))⟩ w' ∧ ren j' (.sl h.next 0 (sLen + n) (sLen + n) true) = some v' := by
  obtain ⟨cap, hge, hrun⟩ := app_grows (ty := ty) ke hd S hb hm hgt ho
  have hz : ke.z.cells.size = P.cellsOf el := by
    have h1 := rens_length (ke.zero_ren j)
    rw [ke.zero_len, ke.sz_cells] at h1
    simpa using h1
  have M : Made P base j h.next (.c (old ++ cs) el true) (.sl h.next 0 (sLen + n) (sLen + n) true) w (.slice (some ⟨w.heap.size, 0, none⟩) (sLen + n) cap)
      (push (drawnTo w (w.drawn + 1)) (.cells (⟨old'⟩ ++ ⟨cs'⟩ ++ Builtin.zeroCells ke.z.cells (cap - (sLen + n))) el)) (cap - (sLen + n)) := by
    refine ⟨rfl, rfl, rfl, by simp [push, drawnTo], fun c hc => ?_, fun j' hj hr => ⟨?_, ?_⟩⟩
    · rw [push_get, if_neg (by show ¬ c = w.heap.size; omega)]; rfl
    · simp only [ren, hr, Option.map_some, if_true, Nat.add_zero]
      congr 3; omega
    · have hl : (⟨old'⟩ ++ ⟨cs'⟩ : Array Value) = ⟨old' ++ cs'⟩ := by simp
      rw [hl]
      exact brel_grown (v := drawnTo w (w.drawn + 1)) R.base (rens_ext hj _ (rens_append hold hcs)) hz
  obtain ⟨s1, s2⟩ := alloc_step kill R M hf hk
  exact ⟨_, _, _, hrun, s1, s2⟩

theorem app_none {t t' ty el : TypeId} {ie : TI} (ke : TIok P el ie) (hd : P.underlying t = some (.slice el)) {a0 : Option Addr} {sLen sCap n : Nat} {x' : Value} (S : AppSrc P w t' el ie.sz x' n []) (hn : n = 0) (hle : sLen ≤ sCap) :
    (Builtin.append_ #[t, t'] ty #[.slice a0 sLen sCap, x']).run P w = .ok (.slice a0 sLen sCap) w := by
  subst hn
  rw [app_fits ke hd S (by simp) (by omega)]
  cases a0 <;> simp [storeCells]

/-- A row in growth, written beyond its block where it has room. -/
theorem move_run {r o : Nat} {el : TypeId} {l old cs : List V} {cs' : List Value} {q : J} {n k d1 : Nat} {sz : Nat} (R : HRel P base j h w) (hr : h.mem.get r = some (.c l el true)) (hq : j r = some q)
    (hf : j h.next = none) (hsz : sz = P.cellsOf el) (hn : n ≤ q.e + k) (hl : l.length = o + k * sz) (hc : cs.length = n * sz) (hone : cs.all oneV = true) (hcs : rens j cs = some cs')
    {m : Nat} (hold : sub l d1 (m * sz) = some old) (hd1 : o = d1 + m * sz) :
    ∃ w', (storeCells ⟨q.c, q.d + o, none⟩ cs').run P w = .ok () w' ∧
      Step P base j h w (upd j h.next ⟨q.c, q.d + d1, q.e + k - n, none⟩) ⟨h.next + 1, (h.mem.put r none).put h.next (some (.c (old ++ cs) el true))⟩ w' := by
  have hB := R.blk r _ q hr hq
  have h2 := hB.2
  rw [if_pos rfl] at h2
  obtain ⟨h3, arr, fr, h4, h5, h6⟩ := h2
  have lv := rens_length hcs
  obtain ⟨_, s2, s3⟩ := sub_eq hold
  have hk : (q.e + k - n) * sz + n * sz = q.e * sz + k * sz := by rw [← Nat.add_mul, ← Nat.add_mul]; congr 1; omega
  rw [← hsz] at h6
  have hrun := run_storeCells' (P := P) cs' w q.c (q.d + o) 0 arr el fr h4 h5 (by omega) (by
    intro u hu
    obtain ⟨i, hi, rfl⟩ := List.getElem_of_mem hu
    have hvs : cs[i]? = some cs[i] := List.getElem?_eq_getElem (by omega)
    obtain ⟨u', e1, e2⟩ := rens_get hcs hvs
    rw [List.getElem?_eq_getElem hi] at e1; cases e1
    exact oneV_ren e2 (List.all_eq_true.1 hone _ (List.getElem_mem _)))
  refine ⟨_, hrun, move_step (q := q) R hr hq rfl hf rfl fun j' hj => ⟨fun i u hu => ?_, ?_⟩⟩
  · have hlt := (Array.getElem?_eq_some_iff.1 h4).1
    have hcell : ∀ k, World.cell? (wset w q.c (.cells (wr arr (q.d + o + 0) cs') el fr)) ⟨q.c, k, none⟩ = (wr arr (q.d + o) cs')[k]? := by
      intro k
      simp only [World.cell?, wset_get, hlt, and_self, if_true, Option.isSome_none, Bool.false_eq_true, if_false, Nat.add_zero]
    show ∃ u', World.cell? _ ⟨q.c, q.d + d1 + i, none⟩ = some u' ∧ _
    rw [hcell, wr_get cs' arr (q.d + o) (q.d + d1 + i) (by omega)]
    by_cases e : i < old.length
    · rw [List.getElem?_append_left e] at hu
      rw [if_neg (by omega)]
      rw [sub_get hold (by omega)] at hu
      obtain ⟨u', e1, e2⟩ := hB.1 (d1 + i) u hu
      simp only [World.cell?, h4, Option.isSome_none, Bool.false_eq_true, if_false] at e1
      exact ⟨u', by rw [← e1]; congr 1; omega, ren_ext hj _ e2⟩
    · rw [List.getElem?_append_right (by omega)] at hu
      have := (List.getElem?_eq_some_iff.1 hu).1
      rw [if_pos (by omega), show q.d + d1 + i - (q.d + o) = i - old.length by omega]
      obtain ⟨u', e1, e2⟩ := rens_get hcs hu
      exact ⟨u', e1, ren_ext hj _ e2⟩
  · rw [if_pos rfl]
    refine ⟨h3, _, fr, by rw [wset_get, if_pos ⟨rfl, (Array.getElem?_eq_some_iff.1 h4).1⟩], by simpa [wr_size] using h5, ?_⟩
    simp only [wr_size, List.length_append, ← hsz]; omega

theorem most_le {a b : Nat} {p : Bool} (h : (p && Nat.ble a most && Nat.ble b most) = true) : p = true ∧ a ≤ 1099511627776 ∧ b ≤ 1099511627776 := by
  simp only [Bool.and_eq_true] at h
  exact ⟨h.1.1, Nat.le_of_ble_eq_true h.1.2, Nat.le_of_ble_eq_true h.2⟩

theorem appA_sim {t t' ty el : TypeId} {ie : TI} (ke : TIok P el ie) (hd : P.underlying t = some (.slice el)) {s v : V} {s' x' : Value} {n : Nat} {cs : List V} {cs' : List Value} {h' : H} (S : AppSrc P w t' el ie.sz x' n cs')
    (R : HRel P base j h w) (hA : appA h el ie s n cs = some (v, h')) (hs : ren j s = some s') (hcs : rens j cs = some cs') (h0 : n = 0 → cs = []) (F : Fresh j h.next h'.next) :
    ∃ j' v' w', (Builtin.append_ #[t, t'] ty #[s', x']).run P w = .ok v' w' ∧ Step P base j h w j' h' w' ∧ ren j' v = some v' := by
  unfold appA at hA
  cases hn0 : Nat.beq n 0 with
  | true =>
    rw [hn0] at hA; simp only [cond_true] at hA
    have hn := Nat.eq_of_beq_eq_true hn0
    have hc := h0 hn
    subst hc
    simp only [rens, Option.some.injEq] at hcs; subst hcs
    cases s <;> simp only [reduceCtorEq, Option.some.injEq, Prod.mk.injEq] at hA
    case ns =>
      obtain ⟨rfl, rfl⟩ := hA
      have hs' := hs
      simp only [ren, Option.some.injEq] at hs; subst hs
      exact ⟨j, _, w, app_none ke hd S hn (by omega), Step.refl R, hs'⟩
    case se r o' o =>
      obtain ⟨rfl, rfl⟩ := hA
      have hs' := hs
      simp only [ren, Option.map_eq_some_iff] at hs
      obtain ⟨q, hq, rfl⟩ := hs
      exact ⟨j, _, w, app_none ke hd S hn (by omega), Step.refl R, hs'⟩
    case ze r =>
      obtain ⟨rfl, rfl⟩ := hA
      have hs' := hs
      simp only [ren, Option.map_eq_some_iff] at hs
      obtain ⟨q, hq, rfl⟩ := hs
      exact ⟨j, _, w, app_none ke hd S hn (by omega), Step.refl R, hs'⟩
    case sl r o len cap e =>
      cases hle : Nat.ble len cap with
      | false => rw [hle] at hA; cases hA
      | true =>
        rw [hle] at hA; simp only [cond_true, Option.some.injEq, Prod.mk.injEq] at hA
        have hle := Nat.le_of_ble_eq_true hle
        obtain ⟨rfl, rfl⟩ := hA
        have hs' := hs
        simp only [ren, Option.map_eq_some_iff] at hs
        obtain ⟨q, hq, rfl⟩ := hs
        exact ⟨j, _, w, app_none ke hd S hn (by omega), Step.refl R, hs'⟩
  | false =>
    rw [hn0] at hA; simp only [cond_false] at hA
    have hn : n ≠ 0 := by rintro rfl; simp at hn0
    cases s <;> simp only [reduceCtorEq] at hA
    case ns =>
      simp only [ren, Option.some.injEq] at hs; subst hs
      cases hb : Nat.ble (n * ie.by_) most && Nat.ble n most with
      | false => rw [hb] at hA; cases hA
      | true =>
        rw [hb] at hA; simp only [cond_true, newB, fN_eq, T.seq_eq, Option.some.injEq, Prod.mk.injEq] at hA
        obtain ⟨rfl, rfl⟩ := hA
        obtain ⟨_, hb1, hb2⟩ := most_le (p := true) (by simpa using hb)
        have := grow_step (ty := ty) (a0 := none) (sLen := 0) (sCap := 0) (old := []) (old' := []) ke hd S R none (by simp) hcs rfl (F _ (by omega) (by simp)) (by simpa using hb1) (by simpa using hb2) (by omega) (fun m => by simp [Builtin.firstCells])
        simpa [struck] using this
    case ze r =>
      simp only [ren, Option.map_eq_some_iff] at hs
      obtain ⟨q, hq, rfl⟩ := hs
      cases hb : Nat.ble (n * ie.by_) most && Nat.ble n most with
      | false => rw [hb] at hA; cases hA
      | true =>
        rw [hb] at hA; simp only [cond_true, newB, fN_eq, T.seq_eq, Option.some.injEq, Prod.mk.injEq] at hA
        obtain ⟨rfl, rfl⟩ := hA
        obtain ⟨_, hb1, hb2⟩ := most_le (p := true) (by simpa using hb)
        have := grow_step (ty := ty) (sLen := 0) (sCap := 0) (old := []) (old' := []) ke hd S R none (by simp) hcs rfl (F _ (by omega) (by simp)) (by simpa using hb1) (by simpa using hb2) (by omega) (a0 := some ⟨q.c, q.d, q.s⟩) (fun m => by simp [Builtin.firstCells, loadCells_zero])
        simpa [struck] using this
    case se r o' o =>
      simp only [ren, Option.map_eq_some_iff] at hs
      obtain ⟨q, hq, rfl⟩ := hs
      cases hr : h.mem.get r with
      | none => simp [hr] at hA
      | some b =>
        cases b <;> simp only [hr, reduceCtorEq] at hA
        rename_i l ty1 own
        cases hb : own && Nat.beq l.length o && Nat.beq ty1 el && Nat.beq cs.length (n * ie.sz) && cs.all oneV && Nat.ble (n * ie.by_) most && Nat.ble n most with
        | false => rw [hb] at hA; cases hA
        | true =>
          rw [hb] at hA; simp only [cond_true, newB, fN_eq, T.seq_eq, Option.some.injEq, Prod.mk.injEq] at hA
          obtain ⟨rfl, rfl⟩ := hA
          obtain ⟨hb, hb1, hb2⟩ := most_le hb
          simp only [Bool.and_eq_true] at hb
          obtain ⟨⟨⟨⟨rfl, hl⟩, ht⟩, hc⟩, hone⟩ := hb
          have hl := Nat.eq_of_beq_eq_true hl
          have ht : ty1 = el := Nat.eq_of_beq_eq_true ht
          have hc := Nat.eq_of_beq_eq_true hc
          subst ht
          have hf := F h.next (by omega) (by simp)
          by_cases hle : n ≤ q.e
          · have he : q.e ≠ 0 := by omega
            obtain ⟨w', w1, w2⟩ := move_run (n := n) (k := 0) (m := 0) (d1 := o) (o := o) (old := []) R hr hq hf ke.sz_cells (by omega) (by omega) hc hone hcs (by simp [sub, takeN]) (by omega)
            refine ⟨_, .slice (some ⟨q.c, q.d + o, none⟩) (0 + n) q.e, w', ?_, by simpa using w2, ?_⟩
            · rw [app_fits ke hd S hb1 (by omega)]
              simp only [he, if_false, Nat.zero_mul, addr_add, Nat.add_zero, w1, Result.andThen_ok]
            · simp only [ren, upd_same, Option.map_some, if_true, Nat.add_zero, Nat.zero_add]
              congr 3; omega
          · have := grow_step (ty := ty) (sLen := 0) (sCap := q.e) (old := []) (old' := []) ke hd S R (some r) (fun r' e => by cases e; exact ⟨q, hq⟩) hcs rfl hf (by simpa using hb1) (by simpa using hb2) (by omega) (a0 := some ⟨q.c, q.d + (if q.e = 0 then o' else o), none⟩) (fun m => by simp [Builtin.firstCells, loadCells_zero])
            simpa [struck] using this
    case sl r o len cap e =>
      simp only [ren, Option.map_eq_some_iff] at hs
      obtain ⟨q, hq, rfl⟩ := hs
      cases hfit : Nat.ble (len + n) cap && Nat.ble (n * ie.by_) most with
      | true =>
        rw [hfit] at hA; simp only [cond_true] at hA
        simp only [Bool.and_eq_true] at hfit
        have h1 := Nat.le_of_ble_eq_true hfit.1
        have h2 : n * ie.by_ ≤ 1099511627776 := Nat.le_of_ble_eq_true hfit.2
        cases hst : storeB h r (o + len * ie.sz) cs with
        | none => simp [hst] at hA
        | some h1' =>
          simp only [hst, Option.some.injEq, Prod.mk.injEq] at hA
          obtain ⟨rfl, rfl⟩ := hA
          obtain ⟨w', w1, w2⟩ := store_run R hst hq hcs
          refine ⟨j, .slice (some ⟨q.c, q.d + o, none⟩) (len + n) (cap + if e = true then q.e else 0), w', ?_, w2, by simp [ren, hq]⟩
          rw [app_fits ke hd S h2 (by omega)]
          simp only [addr_add, Nat.add_assoc] at w1 ⊢
          simp only [w1, Result.andThen_ok]
      | false =>
        rw [hfit] at hA; simp only [cond_false] at hA
        cases hr : h.mem.get r with
        | none => simp [hr] at hA
        | some b =>
          cases b <;> simp only [hr, reduceCtorEq] at hA
          rename_i l ty1 own
          cases hsub : sub l o (len * ie.sz) with
          | none => simp [hsub] at hA
          | some old =>
            simp only [hsub] at hA
            cases hb : Nat.ble ((len + n) * ie.by_) most && Nat.ble (len + n) most with
            | false => rw [hb] at hA; cases hA
            | true =>
              rw [hb] at hA; simp only [cond_true] at hA
              obtain ⟨_, hb1, hb2⟩ := most_le (p := true) (by simpa using hb)
              have hnb : n * ie.by_ ≤ 1099511627776 := Nat.le_trans (Nat.mul_le_mul_right _ (by omega)) hb1
              have hgt : cap < len + n := by
                cases hx : Nat.ble (len + n) cap with
                | false =>
                  have : ¬ (len + n ≤ cap) := fun h => by rw [Nat.ble_eq_true_of_le h] at hx; cases hx
                  omega
                | true =>
                  rw [hx, show Nat.ble (n * ie.by_) most = true from Nat.ble_eq_true_of_le hnb] at hfit
                  cases hfit
              obtain ⟨old', o1, o2, o3⟩ := loadCells_any (P := P) (R.blk r _ q hr hq).1 hsub
              cases e with
              | false =>
                simp only [cond_false, newB, fN_eq, T.seq_eq, Option.some.injEq, Prod.mk.injEq] at hA
                obtain ⟨rfl, rfl⟩ := hA
                have := grow_step (ty := ty) (sLen := len) (sCap := cap) ke hd S R none (by simp) hcs o1 (F _ (by omega) (by simp)) hb1 hb2 hgt (a0 := some ⟨q.c, q.d + o, none⟩) (fun m => by simp only [Builtin.firstCells]; exact o2 m)
                simpa [struck] using this
              | true =>
                cases hb' : own && Nat.ble len cap && Nat.beq l.length (o + cap * ie.sz) && Nat.beq ty1 el && Nat.beq cs.length (n * ie.sz) && cs.all oneV with
                | false => rw [hb'] at hA; cases hA
                | true =>
                  rw [hb'] at hA; simp only [cond_true, newB, fN_eq, T.seq_eq, Option.some.injEq, Prod.mk.injEq] at hA
                  obtain ⟨rfl, rfl⟩ := hA
                  simp only [Bool.and_eq_true] at hb'
                  obtain ⟨⟨⟨⟨⟨rfl, hlc⟩, hl⟩, ht⟩, hc⟩, hone⟩ := hb'
                  have hlc := Nat.le_of_ble_eq_true hlc
                  have hl := Nat.eq_of_beq_eq_true hl
                  have ht : ty1 = el := Nat.eq_of_beq_eq_true ht
                  have hc := Nat.eq_of_beq_eq_true hc
                  subst ht
                  have hf := F h.next (by omega) (by simp)
                  by_cases hle : len + n ≤ cap + q.e
                  · have hmul : (cap - len) * ie.sz + len * ie.sz = cap * ie.sz := by rw [← Nat.add_mul]; congr 1; omega
                    obtain ⟨w', w1, w2⟩ := move_run (n := n) (k := cap - len) (m := len) (d1 := o) (o := o + len * ie.sz) R hr hq hf ke.sz_cells (by omega) (by omega) hc hone hcs hsub rfl
                    refine ⟨_, .slice (some ⟨q.c, q.d + o, none⟩) (len + n) (cap + q.e), w', ?_, w2, ?_⟩
                    · rw [show (if true = true then q.e else 0) = q.e from rfl, app_fits ke hd S hnb hle]
                      simp only [addr_add, Nat.add_assoc] at w1 ⊢
                      simp only [w1, Result.andThen_ok]
                    · simp only [ren, upd_same, Option.map_some, if_true, Nat.add_zero]
                      congr 2; omega
                  · have := grow_step (ty := ty) (sLen := len) (sCap := cap + q.e) ke hd S R (some r) (fun r' e => by cases e; exact ⟨q, hq⟩) hcs o1 hf hb1 hb2 (by omega) (a0 := some ⟨q.c, q.d + o, none⟩) (fun m => by simp only [Builtin.firstCells]; exact o2 m)
                    simpa [struck] using this

end
end Go.Am
