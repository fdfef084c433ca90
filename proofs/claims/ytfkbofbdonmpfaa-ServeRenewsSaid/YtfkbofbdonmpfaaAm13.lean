/- The abstract machine: the operations that make a block. -/
import Derived.Test.YtfkbofbdonmpfaaAm12
import Derived.IntWalk
set_option linter.unusedSimpArgs false
set_option linter.unusedVariables false
set_option linter.unusedSectionVars false
set_option linter.unnecessarySimpa false
namespace Go.Am
open Go.Instr

/-- The relation over a map's blocks, looked up. -/
structure HG (P : Program) (base : Nat) (j : Inj) (g : Nat → Option B) (w : World) : Prop where
  blk : GRel P base j g w
  inj : ∀ r r' b b' q q', g r = some b → g r' = some b' → j r = some q → j r' = some q' → b.own = true → b'.own = true → q.c = q'.c → r = r'
  base : base ≤ w.heap.size

theorem HRel.g {P : Program} {base : Nat} {j : Inj} {h : H} {w : World} (r : HRel P base j h w) : HG P base j h.mem.get w := ⟨r.blk, r.inj, r.base⟩

section
variable {P : Program} {j : Inj} {base : Nat} {w : World}

/-- What one new block comes to. -/
structure Made (P : Program) (base : Nat) (j : Inj) (r : Nat) (b : B) (v : V) (w : World) (v' : Value) (w' : World) (e : Nat) : Prop where
  os : w'.os = w.os
  tape : w'.tape = w.tape
  output : w'.output = w.output
  size : w'.heap.size = w.heap.size + 1
  heap : ∀ c, c < w.heap.size → w'.heap[c]? = w.heap[c]?
  rel : ∀ j', Ext j j' → j' r = some ⟨w.heap.size, 0, e, none⟩ → ren j' v = some v' ∧ BRel P j' base ⟨w.heap.size, 0, e, none⟩ b w'

def push (w : World) (o : Obj) : World := { w with heap := w.heap.push o }

theorem push_get (w : World) (o : Obj) (c : Nat) : (push w o).heap[c]? = if c = w.heap.size then some o else w.heap[c]? := by
  show (w.heap.push o)[c]? = _
  rw [Array.getElem?_push]

theorem made_push {r : Nat} {b : B} {v : V} {v' : Value} {o : Obj} {e : Nat} (h : ∀ j', Ext j j' → j' r = some ⟨w.heap.size, 0, e, none⟩ → ren j' v = some v' ∧ BRel P j' base ⟨w.heap.size, 0, e, none⟩ b (push w o)) : Made P base j r b v w v' (push w o) e :=
  ⟨rfl, rfl, rfl, by simp [push], fun c hc => by rw [push_get, if_neg (by omega)], h⟩

theorem brel_new {j' : Inj} {l : List V} {l' : Array Value} {ty : TypeId} (hb : base ≤ w.heap.size) (h : rens j' l = some l'.toList) : BRel P j' base ⟨w.heap.size, 0, 0, none⟩ (.c l ty true) (push w (.cells l' ty)) := by
  refine ⟨fun i u hu => ?_, ?_⟩
  · obtain ⟨u', h1, h2⟩ := rens_get h hu
    refine ⟨u', ?_, h2⟩
    simp only [World.cell?, push_get, if_true, Option.isSome_none, Bool.false_eq_true, if_false, Nat.zero_add]
    simpa using h1
  · rw [if_pos rfl]
    refine ⟨hb, l', (0, 0), by simp [push_get], .inl rfl, ?_⟩
    have := rens_length h
    simp at this
    simp; omega

theorem run_newRow' (elem : TypeId) (cells : Array Value) (w : World) : (newRow elem cells).run P w = .ok ⟨w.heap.size, 0, none⟩ (push w (.cells cells elem)) := by
  simp [newRow, push]

theorem repl_ren {zs : List V} {zs' : List Value} (h : rens j zs = some zs') : ∀ n, rens j (repl n zs) = some ((List.replicate n zs').flatten)
  | 0 => by simp [repl, rens]
  | n + 1 => by
    have := rens_append h (repl_ren h n)
    simpa [repl, List.replicate_succ] using this

theorem rangeCells (zs : List Value) (n : Nat) (hz : 0 < zs.length) : ((Array.range (n * zs.length)).map fun i => (⟨zs⟩ : Array Value)[i % zs.length]!).toList = (List.replicate n zs).flatten := by
  induction n with
  | zero => simp
  | succ n ih =>
    have hsplit : List.range ((n + 1) * zs.length) = List.range zs.length ++ (List.range (n * zs.length)).map (zs.length + ·) := by
      rw [Nat.succ_mul, Nat.add_comm, List.range_add]
    simp only [Array.toList_map, Array.toList_range] at ih ⊢
    rw [hsplit, List.map_append, List.map_map]
    simp only [List.replicate_succ, List.flatten_cons]
    congr 1
    · apply List.ext_getElem
      · simp
      · intro i h1 h2
        simp only [List.length_map, List.length_range] at h1
        simp [Nat.mod_eq_of_lt h1, h1]
    · rw [← ih]
      apply List.map_congr_left
      intro i _
      simp

theorem opN_sim {e : Env} {o : Oper} {a : Act} {r : Nat} {b : B} {v : V} (h : opN (mkX P) e r o = some (b, v)) (he : Seen j e a o) (hb : base ≤ w.heap.size) :
    ∃ v' w' ee, (execOp a.eval o).run P w = .ok (.value v') w' ∧ Made P base j r b v w v' w' ee := by
  unfold Seen at he
  unfold opN at h
  cases ho : o.op <;> simp only [ho] at h he <;> try (cases h; done)
  case alloc t =>
    replace h := ti_ok' h
    obtain ⟨i, k, h⟩ := h
    cases h
    refine ⟨.pointer (some ⟨w.heap.size, 0, none⟩), push w (.cells k.z.cells t), 0, ?_, made_push fun j' hj hr => ⟨by simp [ren, hr], brel_new hb (k.zero_ren j')⟩⟩
    simp only [execOp, ho, Instr.alloc, Sem.run_bind, k.zeroValue, Result.andThen_ok, newVar, run_newRow', Sem.run_pure]
  case box t u =>
    cases h
    have hu := he u (by simp [Op.operands])
    refine ⟨.pointer (some ⟨w.heap.size, 0, none⟩), push w (.cells (a.eval u).cells t), 0, ?_, made_push fun j' hj hr => ⟨by simp [ren, hr], brel_new hb (cells_ren (ren_ext hj _ hu))⟩⟩
    simp only [execOp, ho, Instr.box, Sem.run_bind, Result.andThen_ok, newVar, run_newRow', Sem.run_pure]
  case buildSlice t n ps =>
    replace h := ti_ok' h
    obtain ⟨i, k, h⟩ := h
    have hk := k.k_eq
    have hd := k.hd
    cases hki : i.k <;> simp only [hki, reduceCtorEq] at h <;> rw [hki] at hk
    case sl el =>
    rw [kOf_sl hk.symm] at hd
    replace h := ti_ok' h
    obtain ⟨ie, ke, h⟩ := h
    cases hble : Nat.ble (n * ie.sz) 16777216 with
    | false => rw [hble] at h; cases h
    | true =>
      rw [hble] at h; simp only [cond_true] at h
      have hle := Nat.le_of_ble_eq_true hble
      cases hpl : placesArr ie.sz (evParts e ps.toList) with
      | none => simp [hpl] at h
      | some l =>
        simp only [hpl] at h
        cases hfi : fillA (repl n ie.zero) l with
        | none => simp [hfi] at h
        | some cs =>
          simp only [hfi, Option.some.injEq, Prod.mk.injEq] at h
          obtain ⟨rfl, rfl⟩ := h
          obtain ⟨p1, p2⟩ := placesArr_spec hpl
          have hparts := parts_rel ps.toList (fun x hx => he x.2 (by simp only [Op.operands, List.mem_map]; exact ⟨x, hx, rfl⟩))
          obtain ⟨cs', c1, c2⟩ := fill_run (fun x => some (x * ie.sz, ie.sz)) l _ _ (repl n ie.zero) cs _ hparts (fun kk m v hk => by
            obtain ⟨a, b⟩ := p2 kk m v hk
            exact ⟨_, b, by rw [a]⟩) p1 hfi (repl_ren (ke.zero_ren j) n)
          have hzl : k.z = k.z := rfl
          have hzlen : ke.z.cells.toList.length = ie.sz := by have := rens_length (ke.zero_ren j); rw [this, ke.zero_len]
          refine ⟨.slice (some ⟨w.heap.size, 0, none⟩) n n, push w (.cells ⟨cs'⟩ el), 0, ?_, made_push fun j' hj hr => ⟨by simp [ren, hr], brel_new hb (rens_ext hj _ c1)⟩⟩
          have e1 : (ps.map fun (i, x) => (i, a.eval x)).toList = ps.toList.map fun (i, x) => (i, a.eval x) := by simp
          simp only [execOp, ho, Instr.buildSlice, Sem.run_bind, run_underlying hd, Result.andThen_ok, ke.sizeOf]
          rw [if_neg (by omega)]
          by_cases hz : n * ie.sz = 0
          · rw [if_pos hz]
            simp only [Sem.run_bind, Sem.run_pure, Result.andThen_ok, e1]
            have : ((List.replicate n ke.z.cells.toList).flatten) = [] := by
              rw [List.flatten_eq_nil_iff]
              intro x hx
              rw [List.mem_replicate] at hx
              obtain ⟨h1, rfl⟩ := hx
              have : ie.sz = 0 := by
                rcases Nat.mul_eq_zero.1 hz with h | h
                · exact absurd h h1
                · exact h
              rw [← List.length_eq_zero_iff]; omega
            rw [this] at c2
            rw [hz]
            simp only [Array.range_zero', Array.map_empty]
            have c2' : Instr.fill (fun i => some (i * ie.sz, ie.sz)) #[] (ps.toList.map fun (i, x) => (i, a.eval x)) = some ⟨cs'⟩ := c2
            rw [c2']
            simp [run_newRow']
          · rw [if_neg hz]
            simp only [Sem.run_bind, ke.zeroValue, Sem.run_pure, Result.andThen_ok, e1]
            have hpos : 0 < ke.z.cells.toList.length := by
              rw [hzlen]
              rcases Nat.eq_zero_or_pos ie.sz with h | h
              · rw [h] at hz; simp at hz
              · exact h
            have hr := rangeCells ke.z.cells.toList n hpos
            have hsz : ke.z.cells.size = ie.sz := by simpa using hzlen
            have hr' : ((Array.range (n * ie.sz)).map fun x => ke.z.cells[x % ke.z.cells.size]!) = ⟨(List.replicate n ke.z.cells.toList).flatten⟩ := by
              apply Array.ext'
              rw [← hr, hzlen, hsz]
            rw [hr', c2]
            simp [run_newRow']
  case makeSlice t u x =>
    replace h := ti_ok' h
    obtain ⟨i, k, h⟩ := h
    have hk := k.k_eq
    have hd := k.hd
    cases hki : i.k <;> simp only [hki, reduceCtorEq] at h <;> rw [hki] at hk
    case sl el =>
    rw [kOf_sl hk.symm] at hd
    have hu := he u (by simp [Op.operands])
    have hx := he x (by simp [Op.operands])
    cases huv : ev e u <;> simp only [huv, reduceCtorEq] at h <;> rw [huv] at hu
    case i k1 n1 =>
    cases n1 with
    | negSucc _ => simp at h
    | ofNat n =>
    try simp only at h
    cases hxv : ev e x <;> simp only [hxv, reduceCtorEq] at h <;> rw [hxv] at hx
    case i k2 n2 =>
    cases n2 with
    | negSucc _ => simp at h
    | ofNat c =>
    try simp only at h
    replace h := ti_ok' h
    obtain ⟨ie, ke, h⟩ := h
    cases hble : (Nat.ble n c && Nat.ble (c * ie.by_) 1099511627776 && Nat.ble c 1099511627776) with
    | false => rw [hble] at h; cases h
    | true =>
      rw [hble] at h; cases h
      simp only [Bool.and_eq_true] at hble
      have l1 := Nat.le_of_ble_eq_true hble.1.1
      have l2 := Nat.le_of_ble_eq_true hble.1.2
      have l3 := Nat.le_of_ble_eq_true hble.2
      have hw : ∀ m : Nat, m ≤ 1099511627776 → IntKind.i64.wrap (Int.ofNat m) = Int.ofNat m := by
        intro m hm
        exact IntWalk.i64_in _ ⟨by simp only [Int.ofNat_eq_natCast]; omega, by simp only [Int.ofNat_eq_natCast]; omega⟩
      have hzlen : ke.z.cells.toList.length = ie.sz := by have := rens_length (ke.zero_ren j); rw [this, ke.zero_len]
      have hby : (ke.info.bytes : Int) * (Int.ofNat c) ≤ 1099511627776 := by
        rw [ke.by_eq, Nat.mul_comm] at l2
        have : ((ke.info.bytes * c : Nat) : Int) ≤ 1099511627776 := by omega
        rwa [Int.natCast_mul] at this
      refine ⟨.slice (some ⟨w.heap.size, 0, none⟩) n c, push w (.cells ⟨(List.replicate c ke.z.cells.toList).flatten⟩ el), 0, ?_, made_push fun j' hj hr => ⟨by simp [ren, hr], brel_new hb (repl_ren (ke.zero_ren j') c)⟩⟩
      simp only [execOp, ho, inv_i hu, inv_i hx, Instr.makeSlice, Sem.run_bind, run_underlying hd, Result.andThen_ok, asInt, asIntOf, Sem.run_pure, ke.typeInfo, hw n (by omega), hw c l3]
      have t1 : ¬ ((Int.ofNat c < 0 || (ke.info.bytes : Int) * Int.ofNat c > 2 ^ 48) = true) := by
        simp only [Bool.or_eq_true, decide_eq_true_eq, not_or]
        exact ⟨by simp, by omega⟩
      have t2 : ((Int.ofNat c < 0 || (ke.info.bytes : Int) * Int.ofNat c > 2 ^ 48) || Int.ofNat n < 0 || Int.ofNat n > Int.ofNat c) = false := by
        rw [Bool.or_eq_false_iff, Bool.or_eq_false_iff]
        refine ⟨⟨by simpa using t1, by simp⟩, by simp; omega⟩
      rw [t2]
      simp only [Bool.false_eq_true, if_false, Sem.run_pure, Result.andThen_ok, run_askRoom, ke.sizeOf, Sem.run_bind]
      rw [show (Int.ofNat c).toNat = c from rfl, show (Int.ofNat n).toNat = n from rfl]
      by_cases hz : c * ie.sz = 0
      · have hnil : ((List.replicate c ke.z.cells.toList).flatten) = [] := by
          rw [List.flatten_eq_nil_iff]
          intro x hx
          rw [List.mem_replicate] at hx
          obtain ⟨h1, rfl⟩ := hx
          have : ie.sz = 0 := by
            rcases Nat.mul_eq_zero.1 hz with h | h
            · exact absurd h h1
            · exact h
          rw [← List.length_eq_zero_iff]; omega
        rw [hnil, hz]
        simp [run_newRow', Array.range_zero']
      · rw [if_neg hz]
        simp only [Sem.run_bind, ke.zeroValue, Sem.run_pure, Result.andThen_ok]
        have hpos : 0 < ke.z.cells.toList.length := by
          rw [hzlen]
          rcases Nat.eq_zero_or_pos ie.sz with h | h
          · rw [h] at hz; simp at hz
          · exact h
        have hr := rangeCells ke.z.cells.toList c hpos
        have hsz : ke.z.cells.size = ie.sz := by simpa using hzlen
        have hr' : ((Array.range (c * ie.sz)).map fun x => ke.z.cells[x % ke.z.cells.size]!) = ⟨(List.replicate c ke.z.cells.toList).flatten⟩ := by
          apply Array.ext'
          rw [← hr, hzlen, hsz]
        rw [hr']
        simp [run_newRow']
  case makeMap t rs =>
    cases rs with
    | some _ => simp at h
    | none =>
      simp only at h
      replace h := ti_ok' h
      obtain ⟨i, k, h⟩ := h
      cases hki : i.k <;> simp only [hki, reduceCtorEq, Option.some.injEq, Prod.mk.injEq] at h
      case mp kt et =>
      obtain ⟨rfl, rfl⟩ := h
      refine ⟨.map (some w.heap.size), push w (.map #[] 0), 0, ?_, made_push fun j' hj hr => ⟨by simp [ren, hr], hb, rfl, #[], by simp [push_get], rfl⟩⟩
      simp [execOp, ho, Instr.makeMap, push]
  case convert s d u =>
    replace h := ti_ok' h
    obtain ⟨i, k, h⟩ := h
    replace h := ti_ok' h
    obtain ⟨i2, k2, h⟩ := h
    have hu := he u (by simp [Op.operands])
    have hk := k.k_eq
    have hd := k.hd
    have hk2 := k2.k_eq
    have hd2 := k2.hd
    cases hki : i.k <;> simp only [hki, reduceCtorEq] at h <;> rw [hki] at hk
    case str =>
    rw [kOf_str hk.symm] at hd
    cases hki2 : i2.k <;> simp only [hki2, reduceCtorEq] at h <;> rw [hki2] at hk2
    case sl el =>
    rw [kOf_sl hk2.symm] at hd2
    cases huv : ev e u <;> simp only [huv, reduceCtorEq] at h <;> rw [huv] at hu
    case s l =>
    replace h := ti_ok' h
    obtain ⟨qi, qk, h⟩ := h
    have hqk := qk.k_eq
    have hqd := qk.hd
    cases hq : qi.k <;> simp only [hq, reduceCtorEq] at h <;> rw [hq] at hqk
    rename_i kk
    cases kk <;> try (cases h; done)
    cases hone : Nat.beq qi.sz 1 with
    | false => simp [hone] at h
    | true =>
    simp only [hone, cond_true, Option.some.injEq, Prod.mk.injEq] at h
    obtain ⟨rfl, rfl⟩ := h
    have hone' : P.cellsOf el = 1 := by rw [← qk.sz_cells]; exact Nat.eq_of_beq_eq_true hone
    rw [kOf_int hqk.symm] at hqd
    obtain ⟨cap, hcap, hle⟩ : ∃ cap, (choose (.appendCap l.length 0 el)).run P w = .ok cap { w with drawn := w.drawn + 1 } ∧ l.length ≤ cap := by
      refine ⟨_, by simp [Question.forced]; rfl, ?_⟩
      simp only [Question.cut]; omega
    let cs : Array Value := ⟨(l.map fun c => Value.int .u8 c.toNat) ++ List.replicate (cap - l.length) (.int .u8 0)⟩
    have hcs : cs.size = cap := by simp only [cs, List.size_toArray, List.length_append, List.length_map, List.length_replicate]; omega
    refine ⟨.slice (some ⟨w.heap.size, 0, none⟩) l.length cap, { push w (.cells cs el (cap, cap + 1)) with drawn := w.drawn + 1 }, cap - l.length, ?_, ?_⟩
    · have hconv : (convert s d (.string ⟨⟨l⟩⟩)).run P w = (Conv.stringToBytes el ⟨⟨l⟩⟩).run P w := by
        simp [convert, run_underlying hd, run_underlying hd2, run_underlying hqd]
      have hsz : (⟨⟨l⟩⟩ : ByteArray).size = l.length := rfl
      have hmap : ((⟨⟨l⟩⟩ : ByteArray).data.map fun b => Value.int .u8 b.toNat) ++ Array.replicate (cap - l.length) (.int .u8 0) = cs := by
        apply Array.ext'; simp [cs]
      simp only [execOp, ho, inv_s hu, Sem.run_bind, hconv, Conv.stringToBytes, hsz, hcap, Result.andThen_ok, run_newRow', hmap]
      have hg : (push { w with drawn := w.drawn + 1 } (.cells cs el)).heap[w.heap.size]? = some (.cells cs el (0, 0)) := by
        rw [push_get]; simp
      simp only [markStringish, Sem.run_bind, run_shape, World.shape?, hg, Result.andThen_ok, run_freeze, Sem.run_pure]
      congr 2
      · simp only [World.freeze, Nat.one_ne_zero, if_false, push]
        congr 1
        apply Array.ext_getElem?
        intro k
        simp only [Array.getElem?_modify, Array.getElem?_push]
        by_cases e : w.heap.size = k
        · subst e; simp [hcs]
        · rw [if_neg e, if_neg (by omega), if_neg (by omega)]
    · refine ⟨rfl, rfl, rfl, by simp [push], fun c hc => by show (push w _).heap[c]? = _; rw [push_get, if_neg (by omega)], fun j' hj hr => ⟨by simp [ren, hr]; omega, fun i x hx => ?_, ?_⟩⟩
      · rw [List.getElem?_map, Option.map_eq_some_iff] at hx
        obtain ⟨c, hc, rfl⟩ := hx
        refine ⟨.int .u8 c.toNat, ?_, rfl⟩
        have hlt : i < l.length := (List.getElem?_eq_some_iff.1 hc).1
        have hg : (push w (.cells cs el (cap, cap + 1))).heap[w.heap.size]? = some (.cells cs el (cap, cap + 1)) := by rw [push_get]; simp
        show World.cell? (push w (.cells cs el (cap, cap + 1))) _ = _
        simp only [World.cell?, hg, Option.isSome_none, Bool.false_eq_true, if_false, Nat.zero_add]
        simp only [cs, List.getElem?_toArray]
        rw [List.getElem?_append_left (by simpa using hlt), List.getElem?_map, hc]; rfl
      · rw [if_pos rfl]
        refine ⟨hb, cs, (cap, cap + 1), ?_, .inr (by simp [hcs]), by simp [hone', hcs]; omega⟩
        show (push w _).heap[w.heap.size]? = _
        rw [push_get]; simp
  case range t u =>
    replace h := ti_ok' h
    obtain ⟨i, k, h⟩ := h
    have hk := k.k_eq
    have hd := k.hd
    have hu := he u (by simp [Op.operands])
    cases hki : i.k <;> simp only [hki, reduceCtorEq] at h <;> rw [hki] at hk
    case str =>
    rw [kOf_str hk.symm] at hd
    cases huv : ev e u <;> simp only [huv, reduceCtorEq] at h <;> rw [huv] at hu
    case s l =>
    cases h
    refine ⟨.pointer (some ⟨w.heap.size, 0, none⟩), push w (.stringIter ⟨⟨l⟩⟩ 0), 0, ?_, made_push fun j' hj hr => ⟨by simp [ren, hr], hb, rfl, by simp [push_get]⟩⟩
    simp [execOp, ho, Instr.range, run_underlying hd, inv_s hu, push]

end
end Go.Am
