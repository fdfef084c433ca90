/- The abstract machine: a region in any order, whole. -/
import Derived.Test.YtfkbofbdonmpfaaAm25
set_option linter.unusedSimpArgs false
set_option linter.unusedVariables false
set_option linter.unusedSectionVars false
set_option linter.unnecessarySimpa false
namespace Go.Am
open Go.Instr

theorem nodup_le : ∀ (L M : List Nat), L.Nodup → (∀ x ∈ L, x ∈ M) → L.length ≤ M.length
  | [], M, _, _ => Nat.zero_le _
  | a :: L, M, h, hs => by
    rw [List.nodup_cons] at h
    have ha := hs a (by simp)
    have := nodup_le L (M.erase a) h.2 (fun x hx => by
      have hne : x ≠ a := fun e => h.1 (e ▸ hx)
      exact (List.mem_erase_of_ne hne).2 (hs x (by simp [hx])))
    rw [List.length_erase_of_mem ha] at this
    have hp : 0 < M.length := List.length_pos_of_mem ha
    simp only [List.length_cons]; omega

theorem all_of_length {L : List Nat} {n : Nat} (h : L.Nodup) (hl : ∀ i ∈ L, i < n) (hn : n ≤ L.length) : ∀ i, i < n → i ∈ L := by
  intro i hi
  by_cases e : i ∈ L
  · exact e
  · have := nodup_le (i :: L) (List.range n) (List.nodup_cons.2 ⟨e, h⟩) (fun x hx => by
      rcases List.mem_cons.1 hx with rfl | hx
      · exact List.mem_range.2 hi
      · exact List.mem_range.2 (hl x hx))
    simp at this; omega

section
variable {P : Program} {base : Nat} {call : FuncId → List V → H → Option (V × H)} {ops : Array Oper} {S : Nat → St} {v : Nat → V} {rs : List Rec} {nt : Nat} {j0 : Inj} {w0 : World} {n0 : Nat} {d0 : List Deferred}

/-- The list of those done, as the machine keeps it. -/
structure Kept (ops : Array Oper) (listed : Array Bool) (L : List Nat) : Prop where
  size : listed.size = ops.size
  nodup : L.Nodup
  mem : ∀ i, listed.getD i false = true ↔ i ∈ L

theorem Kept.lt {listed : Array Bool} {L : List Nat} (K : Kept ops listed L) : ∀ i ∈ L, i < ops.size := by
  intro i hi
  have := (K.mem i).2 hi
  rw [Array.getD_eq_getD_getElem?] at this
  by_cases e : i < ops.size
  · exact e
  · rw [Array.getElem?_eq_none (by rw [K.size]; omega)] at this
    cases this

theorem Kept.cons {listed : Array Bool} {L : List Nat} (K : Kept ops listed L) {i : Nat} (hi : i < ops.size) (hn : i ∉ L) : Kept ops (listed.setIfInBounds i true) (i :: L) := by
  refine ⟨by simp [K.size], List.nodup_cons.2 ⟨hn, K.nodup⟩, fun k => ?_⟩
  rw [Array.getD_eq_getD_getElem?, Array.getElem?_setIfInBounds, List.mem_cons, ← K.mem k, Array.getD_eq_getD_getElem?]
  by_cases e : i = k
  · subst e; simp [K.size, hi]
  · have : ¬ k = i := fun h => e h.symm
    simp [e, this]

theorem any_wp (F : Fix P base call ops S v rs nt) (hn : nt ≤ n0) {Q : Exit → Act → World → Prop} {md : Region.Mode} (hs : Settles md ops)
    (fin : ∀ L m j a w, Inv P base ops S v j0 w0 n0 d0 L m j a w → (∀ i, i < ops.size → i ∈ L) → Q .normal a w) :
    ∀ (fuel : Nat) (listed : Array Bool) (L : List Nat) (m : Nat) (j : Inj) (a : Act) (w : World), Inv P base ops S v j0 w0 n0 d0 L m j a w → Kept ops listed L → ops.size ≤ L.length + fuel → wpAny P md ops Q fuel listed a w
  | 0, listed, L, m, j, a, w, I, K, hf => by
    have hall := all_of_length K.nodup K.lt (by omega)
    refine ⟨?_, fin L m j a w I hall⟩
    rw [List.eq_nil_iff_forall_not_mem]
    intro i hi
    obtain ⟨o, h1, h2, _⟩ := ready_mem hi
    have hlt := (Array.getElem?_eq_some_iff.1 h1).1
    have := (K.mem i).2 (hall i hlt)
    rw [Array.getD_eq_getD_getElem?] at this h2
    rw [Array.getElem?_eq_getElem (by rw [K.size]; exact hlt)] at this h2
    simp only [Option.getD_some] at this h2
    rw [h2] at this; cases this
  | fuel + 1, listed, L, m, j, a, w, I, K, hf => by
    refine ⟨fun hr => fin L m j a w I fun i hi => (K.mem i).1 (ready_nil hs K.size hr i hi), fun i hi => ?_⟩
    obtain ⟨o, h1, h2, h3⟩ := ready_mem hi
    have hlt := (Array.getElem?_eq_some_iff.1 h1).1
    have hnl : i ∉ L := by
      intro e
      have := (K.mem i).2 e
      rw [Array.getD_eq_getD_getElem?] at this h2
      rw [Array.getElem?_eq_getElem (by rw [K.size]; exact hlt)] at this h2
      simp only [Option.getD_some] at this h2
      rw [h2] at this; cases this
    refine op_step F hn I ⟨h1, hnl, fun e he ha => (K.mem _).1 (h3 e he (binds_any ha))⟩ fun m' j' a' w' I' => ?_
    exact any_wp F hn hs fin fuel _ (i :: L) m' j' a' w' I' (K.cons hlt hnl) (by simp only [List.length_cons]; omega)

theorem Fix.start (F : Fix P base call ops S v rs nt) (R : HRel P base j0 (S 0).h w0) {a : Act} (he : ERel j0 (S 0).e a.tmps) (hf : Fresh j0 (S 0).h.next (S ops.size).h.next) : Inv P base ops S v j0 w0 a.tmps.size a.defers [] 0 j0 a w0 := by
  have hlen : ops.toList.length = ops.size := by simp
  have hEN : ∀ r b, (S ops.size).h.next ≤ r → (S ops.size).en.get r ≠ some b := by
    have : ∀ k, k ≤ ops.size → ∀ r b, (S k).h.next ≤ r → (S k).en.get r ≠ some b := by
      intro k
      induction k with
      | zero => intro _ r b _; rw [F.T.en0]; simp [T.get]
      | succ k ih =>
        intro hk r b hr
        have ho : ops.toList[k]? = some (ops.toList[k]'(by omega)) := List.getElem?_eq_getElem (by omega)
        have m1 := F.T.mono F.G (i := k) (k := k + 1) (by omega) (by omega)
        rcases F.T.ways ho with ⟨_, e, _⟩ | ⟨b0, e0, e, _⟩ | ⟨e, _⟩
        · rw [e]; exact ih (by omega) r b (by omega)
        · rw [e, T.get_put, if_neg (by rw [e0] at hr; simp only at hr; omega)]; exact ih (by omega) r b (by omega)
        · rw [e]; exact ih (by omega) r b (by omega)
    exact this ops.size (Nat.le_refl _)
  have hh0 : hbOf (S 0).h (S 0).hs = (S 0).h := by rw [F.T.hs0]; rfl
  exact {
    closed := by simp
    m_le := Nat.zero_le _
    heavies := by simp
    order := List.Pairwise.nil
    env := he
    fresh := fun k hk _ => hf.sub (F.T.mono F.G (by omega) (by omega)) (F.T.mono F.G (by omega) (by omega))
    news := fun k o b v' hk _ hw hc hp => by
      have hlt := (Array.getElem?_eq_some_iff.1 hk).1
      have ho : ops.toList[k]? = some o := by rw [Array.getElem?_toList]; exact hk
      obtain ⟨b1, h1, h2⟩ := F.T.cls_op ho hw hc
      rw [hp] at h1
      simp only [Option.some.injEq, Prod.mk.injEq] at h1
      rw [hh0, viewOf_ge (F.T.mono F.G (by omega) (by omega))]
      have hst := F.T.en_stable F.G (ops.size - (k + 1)) (k + 1) (by omega) (S k).h.next (by rw [h2]; exact Nat.lt_succ_self _)
      rw [show k + 1 + (ops.size - (k + 1)) = ops.size by omega] at hst
      rw [hst, ((F.T.step k o ho).n hw hc).1, h2]
      simp only [T.get_put, if_true]
      rw [h1.1]
    tm := rfl
    df := rfl
    step := by
      rw [hh0]
      refine PStep.start R (fun r hr => viewOf_lt hr) (fun r h1 h2 => hf r h1 h2) fun r b hr => ?_
      rw [viewOf_ge (Nat.le_trans (F.T.mono F.G (by omega) (by omega)) hr)]
      exact hEN r b hr }

theorem Fix.finish (F : Fix P base call ops S v rs nt) {L : List Nat} {m : Nat} {j : Inj} {a : Act} {w : World} (I : Inv P base ops S v j0 w0 n0 d0 L m j a w) (hall : ∀ i, i < ops.size → i ∈ L) :
    Step P base j0 (S 0).h w0 j (S ops.size).h w ∧ ERel j (S ops.size).e a.tmps := by
  have hlen : ops.toList.length = ops.size := by simp
  have hsame : (S ops.size).hs = (S m).hs := by
    have := F.T.hs_const (ops.size - m) m (by have := I.m_le; omega) (fun k ok h1 h2 h3 h4 => by
      have hk : ops[k]? = some ok := by rw [← Array.getElem?_toList]; exact h3
      have := (I.heavies k ok hk h4.1 h4.2).1 (hall k (by have := I.m_le; omega))
      omega)
    rwa [show m + (ops.size - m) = ops.size by have := I.m_le; omega] at this
  refine ⟨I.step.finish (F.T.bd F.G F.bd (by omega)) (fun r hr => ?_) rfl (F.T.mono F.G (by omega) (by omega)), fun t => ?_⟩
  · have := F.T.view F.G (k := ops.size) (by omega) hr
    rw [hsame] at this
    simpa using this
  · have get : ∀ k, dstOf ops k = some t → ∃ ok, ops[k]? = some ok ∧ ok.dst = some t := by
      intro k hk
      unfold dstOf at hk
      cases ho : ops[k]? with
      | none => rw [ho] at hk; cases hk
      | some ok => rw [ho] at hk; exact ⟨ok, rfl, hk⟩
    have e1 : ∀ k ∈ L, dstOf ops k = some t → k < ops.size := fun k _ hd => by
      obtain ⟨ok, h1, _⟩ := get k hd
      exact (Array.getElem?_eq_some_iff.1 h1).1
    have e3 : L.Pairwise (fun a b => dstOf ops a = some t → dstOf ops b = some t → b < a) := by
      refine I.order.imp ?_
      intro x y h hx hy
      obtain ⟨ox, x1, x2⟩ := get x hx
      obtain ⟨oy, y1, y2⟩ := get y hy
      refine h ox oy x1 y1 ?_
      unfold clash
      have : touches (foot (mkX P) ops.toList ox).w (foot (mkX P) ops.toList oy) = true := by
        show touches ox.dst _ = true
        rw [x2]; exact touches_w y2
      rw [this]; rfl
    rw [← env_eq F.T (t := t) (i := ops.size) (Nat.le_refl _) (L := L) e1 (fun k hk _ => hall k hk) e3]
    exact I.env t

/-- A region, whatever its order. -/
theorem region_sim (C : CallSim P base call) (G : CallGd call) {id : Nat} {draw : Bool} {e e' : Env} {h h' : H} {x : Ex} {j : Inj} {a : Act} {w : World} {Q : Exit → Act → World → Prop} (ok : regOk (mkX P) nt ops.toList draw = true)
    (hh : region (mkX P) call ops.toList draw e h = some (x, e', h')) (R : HRel P base j h w) (he : ERel j e a.tmps) (hn : nt ≤ a.tmps.size) (hf : Fresh j h.next h'.next)
    (k : ∀ j' a' w', Step P base j h w j' h' w' → ERel j' e' a'.tmps → a'.tmps.size = a.tmps.size → a'.defers = a.defers → Q .normal a' w') : x = .n ∧ (Code.region id ops draw).wp P Q a w := by
  unfold regOk at ok
  rw [Bool.and_eq_true] at ok
  have hops : ∀ o ∈ ops.toList, OpOk nt o := fun o ho => by
    have := List.all_eq_true.1 ok.1 o ho
    rw [Bool.and_eq_true] at this
    exact this
  unfold region at hh
  cases draw with
  | false =>
    simp only [cond_false] at hh
    split at hh
    · rename_i e1 h1 hs
      simp only [Option.some.injEq, Prod.mk.injEq] at hh
      obtain ⟨rfl, rfl, rfl⟩ := hh
      exact ⟨rfl, wp_region_list (seqR_sim C G ops.toList j e h a w hs R he hops hn hf k)⟩
    · cases hh
  | true =>
    simp only [cond_true] at hh
    split at hh
    · rename_i e1 h1 en1 rs1 hs1 hd
      cases hall : rs1.all fun r => stands (mkX P) (preds ops.toList []) en1 h r none hs1 with
      | false => rw [hall] at hh; cases hh
      | true =>
        rw [hall] at hh
        simp only [cond_true, Option.some.injEq, Prod.mk.injEq] at hh
        obtain ⟨rfl, rfl, rfl⟩ := hh
        refine ⟨rfl, ?_⟩
        obtain ⟨S, v, s1, s2, _, s4⟩ := drawR_trace ops.toList 0 _ _ _ _ _ _ _ _ _ _ hd
        rw [Nat.zero_add, Array.length_toList] at s2
        have ok2 := ok.2
        simp only [cond_true, Bool.and_eq_true] at ok2
        have F : Fix P base call ops S v rs1 nt := {
          C := C
          G := G
          T := ⟨by rw [s1], by rw [s1], fun i o hi => by have := s4 i o hi; rwa [Nat.zero_add] at this⟩
          ok := hops
          pairs := ok2.1
          st := fun r hr => by rw [s1, s2]; exact List.all_eq_true.1 hall r hr
          bd := by rw [s1]; exact R.next }
        have hset : if departing ops.toList = true then settles ops.toList .text = true ∧ settles ops.toList .gc = true else settles ops.toList .any = true := by
          have := ok2.2
          cases hdep : departing ops.toList with
          | true => rw [hdep] at this; simpa using this
          | false => rw [hdep] at this; simpa using this
        refine wp_region_draw (schedule_wp hset fun md hs => ?_)
        have hw : ({ w with drawn := w.drawn + 1 } : World) = drawnTo w (w.drawn + 1) := rfl
        rw [hw]
        have R' : HRel P base j (S 0).h (drawnTo w (w.drawn + 1)) := by rw [s1]; exact R.drew _
        have I0 := F.start R' (a := a) (by rw [s1]; exact he) (by rw [s1, s2]; exact hf)
        refine any_wp F hn hs (fun L m j' a' w' I hl => ?_) ops.size _ [] 0 j a _ I0 ⟨by simp, List.nodup_nil, fun i => ?_⟩ (by simp)
        · obtain ⟨t1, t2⟩ := F.finish I hl
          rw [s1, s2] at t1
          rw [s2] at t2
          exact k j' a' w' (t1.drew1 (w.drawn + 1)) t2 I.tm I.df
        · rw [Array.getD_eq_getD_getElem?, Array.getElem?_replicate]
          by_cases hi : i < ops.size <;> simp [hi]
    · cases hh

end
end Go.Am
