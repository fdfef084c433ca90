/- The abstract machine: a region in any order. Each operation keeps what is known. -/
import Derived.Test.YtfkbofbdonmpfaaAm23
set_option linter.unusedSimpArgs false
set_option linter.unusedVariables false
set_option linter.unusedSectionVars false
set_option linter.unnecessarySimpa false
namespace Go.Am
open Go.Instr

structure Fix (P : Program) (base : Nat) (call : FuncId → List V → H → Option (V × H)) (ops : Array Oper) (S : Nat → St) (v : Nat → V) (rs : List Rec) (nt : Nat) : Prop where
  C : CallSim P base call
  G : CallGd call
  T : Trace P call ops.toList S v rs
  ok : ∀ o ∈ ops.toList, OpOk nt o
  pairs : pairsOk (preds ops.toList []) [] (ops.toList.map (foot (mkX P) ops.toList)) = true
  st : ∀ r ∈ rs, stands (mkX P) (preds ops.toList []) (S ops.size).en (S 0).h r none (S ops.size).hs = true
  bd : Bd (S 0).h

structure Inv (P : Program) (base : Nat) (ops : Array Oper) (S : Nat → St) (v : Nat → V) (j0 : Inj) (w0 : World) (n0 : Nat) (d0 : List Deferred) (L : List Nat) (m : Nat) (j : Inj) (a : Act) (w : World) : Prop where
  closed : ∀ k ∈ L, ∀ o, ops[k]? = some o → ∀ e ∈ o.after.toList, anyEdge e = true → e.on ∈ L
  m_le : m ≤ ops.size
  heavies : ∀ k o, ops[k]? = some o → wantA (S k).e ops.toList o = true → heavyC (mkX P) o = true → (k ∈ L ↔ k < m)
  order : L.Pairwise fun a b => ∀ oa ob, ops[a]? = some oa → ops[b]? = some ob → clash (foot (mkX P) ops.toList oa) (foot (mkX P) ops.toList ob) = true → b < a
  env : ∀ t, ren j (envL (dstOf ops) v (S 0).e L t) = some (a.tmps.getD t undef)
  fresh : ∀ k, k < ops.size → k ∉ L → Fresh j (S k).h.next (S (k + 1)).h.next
  news : ∀ k o b v', ops[k]? = some o → k ∉ L → wantA (S k).e ops.toList o = true → cls (mkX P) o = .n → opN (mkX P) (S k).e (S k).h.next o = some (b, v') → viewOf (hbOf (S 0).h (S m).hs) (S ops.size).en (S k).h.next = some b
  tm : a.tmps.size = n0
  df : a.defers = d0
  step : PStep P base j0 (S 0).h w0 j (viewOf (hbOf (S 0).h (S m).hs) (S ops.size).en) (S ops.size).h.next w

theorem clash_comm (a b : Foot) : clash a b = clash b a := by
  unfold clash
  rw [Bool.or_comm (touches a.w b), Bool.and_comm a.h]

theorem touches_r {d : Nat} {f : Foot} (h : d ∈ f.r) : touches (some d) f = true := by
  unfold touches
  rw [Bool.or_eq_true]
  left
  rw [List.any_eq_true]
  exact ⟨d, h, Nat.beq_refl d⟩

theorem touches_w {d : Nat} {f : Foot} (h : f.w = some d) : touches (some d) f = true := by
  unfold touches
  rw [h]
  simp

section
variable {P : Program} {base : Nat} {call : FuncId → List V → H → Option (V × H)} {ops : Array Oper} {S : Nat → St} {v : Nat → V} {rs : List Rec} {nt : Nat} {j0 j : Inj} {w0 w : World} {n0 m : Nat} {d0 : List Deferred} {L : List Nat} {a : Act}

theorem Fix.ord (F : Fix P base call ops S v rs nt) {i k : Nat} {oi ok : Oper} (hik : i < k) (hi : ops[i]? = some oi) (hk : ops[k]? = some ok) (hc : clash (foot (mkX P) ops.toList oi) (foot (mkX P) ops.toList ok) = true) : ((preds ops.toList []).getD k 0).testBit i = true :=
  pairsOk_ord F.pairs hik (by rw [List.getElem?_map, Array.getElem?_toList, hi]; rfl) (by rw [List.getElem?_map, Array.getElem?_toList, hk]; rfl) hc

/-- An operation that may go next. -/
structure Next1 (ops : Array Oper) (L : List Nat) (i : Nat) (o : Oper) : Prop where
  ho : ops[i]? = some o
  hi : i ∉ L
  hr : ∀ e ∈ o.after.toList, anyEdge e = true → e.on ∈ L

theorem Inv.pc (I : Inv P base ops S v j0 w0 n0 d0 L m j a w) : ∀ k, k ∈ L → ∀ b, ((preds ops.toList []).getD k 0).testBit b = true → b ∈ L :=
  preds_closed (S := (· ∈ L)) ops.toList [] (fun k o ho hk e he ha => I.closed k (by simpa using hk) o (by rw [← Array.getElem?_toList]; exact ho) e he ha) (fun k _ i hi => by simp at hi)

theorem Inv.closed' (I : Inv P base ops S v j0 w0 n0 d0 L m j a w) {i : Nat} {o : Oper} (N1 : Next1 ops L i o) : ∀ k ∈ i :: L, ∀ o, ops[k]? = some o → ∀ e ∈ o.after.toList, anyEdge e = true → e.on ∈ i :: L := by
  intro k hk o' ho' e he ha
  rcases List.mem_cons.1 hk with rfl | hk
  · rw [N1.ho] at ho'; cases ho'; exact List.mem_cons_of_mem _ (N1.hr e he ha)
  · exact List.mem_cons_of_mem _ (I.closed k hk o' ho' e he ha)

theorem Inv.pi (I : Inv P base ops S v j0 w0 n0 d0 L m j a w) {i : Nat} {o : Oper} (N1 : Next1 ops L i o) : ∀ b, ((preds ops.toList []).getD i 0).testBit b = true → b ∈ i :: L :=
  preds_closed (S := (· ∈ i :: L)) ops.toList [] (fun k o ho hk e he ha => I.closed' N1 k (by simpa using hk) o (by rw [← Array.getElem?_toList]; exact ho) e he ha) (fun k _ i hi => by simp at hi) i (by simp)

theorem Inv.behind (F : Fix P base call ops S v rs nt) (I : Inv P base ops S v j0 w0 n0 d0 L m j a w) {i : Nat} {o : Oper} (N1 : Next1 ops L i o) {k : Nat} {ok : Oper} (hk : ops[k]? = some ok) (hc : clash (foot (mkX P) ops.toList ok) (foot (mkX P) ops.toList o) = true) (hne : k ≠ i) : k ∈ L ↔ k < i := by
  constructor
  · intro h
    by_cases hlt : k < i
    · exact hlt
    · exact absurd (I.pc k h i (F.ord (by omega) N1.ho hk (by rw [clash_comm]; exact hc))) N1.hi
  · intro h
    rcases List.mem_cons.1 (I.pi N1 k (F.ord h hk N1.ho hc)) with e | e
    · exact absurd e hne
    · exact e

theorem Inv.looked (F : Fix P base call ops S v rs nt) (I : Inv P base ops S v j0 w0 n0 d0 L m j a w) {i : Nat} {o : Oper} (N1 : Next1 ops L i o) : Looked j (S i).e a ops.toList o := by
  intro t ht
  have hlt := (Array.getElem?_eq_some_iff.1 N1.ho).1
  have get : ∀ k, dstOf ops k = some t → ∃ ok, ops[k]? = some ok ∧ ok.dst = some t := by
    intro k hk
    unfold dstOf at hk
    cases ho : ops[k]? with
    | none => rw [ho] at hk; cases hk
    | some ok => rw [ho] at hk; exact ⟨ok, rfl, hk⟩
  have hc : ∀ ok : Oper, ok.dst = some t → clash (foot (mkX P) ops.toList ok) (foot (mkX P) ops.toList o) = true := by
    intro ok hd
    unfold clash
    have : touches (foot (mkX P) ops.toList ok).w (foot (mkX P) ops.toList o) = true := by
      show touches ok.dst _ = true
      rw [hd]; exact touches_r ht
    rw [this]; rfl
  have e1 : ∀ k ∈ L, dstOf ops k = some t → k < i := fun k hk hd => by
    obtain ⟨ok, h1, h2⟩ := get k hd
    exact (I.behind F N1 h1 (hc ok h2) (fun e => N1.hi (e ▸ hk))).1 hk
  have e2 : ∀ k, k < i → dstOf ops k = some t → k ∈ L := fun k hk hd => by
    obtain ⟨ok, h1, h2⟩ := get k hd
    exact (I.behind F N1 h1 (hc ok h2) (by omega)).2 hk
  have e3 : L.Pairwise (fun a b => dstOf ops a = some t → dstOf ops b = some t → b < a) := by
    refine I.order.imp ?_
    intro x y h hx hy
    obtain ⟨ox, x1, x2⟩ := get x hx
    obtain ⟨oy, y1, y2⟩ := get y hy
    refine h ox oy x1 y1 ?_
    unfold clash
    have : touches (foot (mkX P) ops.toList ox).w (foot (mkX P) ops.toList oy) = true := by
      show touches ox.dst _ = true
      rw [x2]; exact touches_w y2
    rw [this]; rfl
  rw [← env_eq F.T (t := t) (i := i) (by omega) (L := L) e1 e2 e3]
  exact I.env t

theorem Inv.next (F : Fix P base call ops S v rs nt) (hn : nt ≤ n0) (I : Inv P base ops S v j0 w0 n0 d0 L m j a w) {i : Nat} {o : Oper} (N1 : Next1 ops L i o) {m' : Nat} {j' : Inj} {v' : Value} {w' : World}
    (hx : Ext j j') (hv : ren j' (v i) = some v') (hj : ∀ r, (r < (S i).h.next ∨ (S (i + 1)).h.next ≤ r) → j' r = j r) (hm : m' ≤ ops.size)
    (hh : ∀ k o, ops[k]? = some o → wantA (S k).e ops.toList o = true → heavyC (mkX P) o = true → (k ∈ i :: L ↔ k < m'))
    (hnews : ∀ k o b v', ops[k]? = some o → k ∉ i :: L → wantA (S k).e ops.toList o = true → cls (mkX P) o = .n → opN (mkX P) (S k).e (S k).h.next o = some (b, v') → viewOf (hbOf (S 0).h (S m').hs) (S ops.size).en (S k).h.next = some b)
    (hs : PStep P base j0 (S 0).h w0 j' (viewOf (hbOf (S 0).h (S m').hs) (S ops.size).en) (S ops.size).h.next w') : Inv P base ops S v j0 w0 n0 d0 (i :: L) m' j' (a.put o.dst v') w' := by
  have hlt := (Array.getElem?_eq_some_iff.1 N1.ho).1
  have hok := F.ok o (by rw [List.mem_iff_getElem?]; exact ⟨i, by rw [Array.getElem?_toList]; exact N1.ho⟩)
  exact {
    closed := I.closed' N1
    m_le := hm
    heavies := hh
    order := by
      rw [List.pairwise_cons]
      refine ⟨fun b hb oa ob ha hob hc => ?_, I.order⟩
      rw [N1.ho] at ha; cases ha
      exact (I.behind F N1 hob (by rw [clash_comm]; exact hc) (fun e => N1.hi (e ▸ hb))).1 hb
    env := fun t => by
      have hd : dstOf ops i = o.dst := by unfold dstOf; rw [N1.ho]; rfl
      rw [put_getD a o.dst v' t (fun x hx => by rw [I.tm]; exact Nat.lt_of_lt_of_le (hok.dst x hx) hn)]
      simp only [envL, hd]
      by_cases e : o.dst = some t
      · rw [if_pos e, if_pos e]; exact hv
      · rw [if_neg e, if_neg e]; exact ren_ext hx _ (I.env t)
    fresh := fun k hk hkn r h1 h2 => by
      have hne : k ≠ i := fun e => hkn (by simp [e])
      have hnl : k ∉ L := fun e => hkn (by simp [e])
      rw [hj r ?_]
      · exact I.fresh k hk hnl r h1 h2
      · by_cases hlt2 : k < i
        · left
          have := F.T.mono F.G (i := k + 1) (k := i) (by omega) (by simp; omega)
          omega
        · right
          have := F.T.mono F.G (i := i + 1) (k := k) (by omega) (by simp; omega)
          omega
    news := hnews
    tm := by rw [put_size]; exact I.tm
    df := by rw [put_defers]; exact I.df
    step := hs }

end
end Go.Am
