/- Promises over the machine: reads that are read again. -/
import Derived.Test.YtbkhielalbbopaaGreatDoorM4
import Derived.Test.YtbkhielalbbopaaGreatDoorM3
import Derived.Lib.LaidTab
import Derived.Lib.LaidU8
import Derived.Handed
import Derived.HandedShaped
import Derived.Shelf.Vars
set_option linter.unusedSimpArgs false
set_option linter.unusedVariables false
set_option linter.unusedSectionVars false
set_option linter.unnecessarySimpa false
namespace Go.Am
theorem okAtW_t {ps : List Nat} {en : T B} {r : RecW} {h : H} (ha : againW en r h = true) (nx : Option Nat) : okAtW ps en r nx h = true := by
 unfold okAtW
 cases nx with
 | none => exact ha
 | some i => simp only [ha]; cases (ps.getD r.ix 0).testBit i <;> rfl
theorem standsW_t {ps : List Nat} {en : T B} {r : RecW} {h0 : H} (h1 : againW en r h0 = true) : ∀ (hs : List (Nat × H)) (nx : Option Nat), (∀ p ∈ hs, againW en r p.2 = true) → standsW ps en h0 r nx hs = true
 | [], nx, _ => okAtW_t h1 nx
 | (i, h) :: hs, nx, hp => by
  unfold standsW
  rw [okAtW_t (hp (i, h) (by simp)) nx, standsW_t h1 hs _ fun p hp' => hp p (by simp [hp'])]
  cases (ps.getD i 0).testBit r.ix <;> rfl
theorem ck_ok {ps : List Nat} {en : T B} {h : H} {rs : List RecW} {hs : List (Nat × H)} {κ : Prop} (hr : ∀ r ∈ rs, againW en r h = true ∧ ∀ p ∈ hs, againW en r p.2 = true) (hk : κ) : pw.ck ps en h rs hs κ :=
 ⟨List.all_eq_true.2 fun r hm => standsW_t (hr r hm).1 hs none (hr r hm).2, hk⟩
theorem againW_l {x : X} {t : TypeId} {i : TI} (ht : x.tt.get t = some i) (ha : i.agg = false) (hs : i.sz = 1) {en : T B} {ix q o : Nat} {v : V} {h : H} {l : List V} {ty : TypeId} {w : Bool} (hq : q < h.next) (hg : h.mem.get q = some (.c l ty w)) (hv : l[o]? = some v) : againW en ⟨ix, rdLw x t (.p q o), v⟩ h = true := by
 unfold againW
 have e : rdLw x t (.p q o) (fun k => bif Nat.blt k h.next then h.mem.get k else en.get k) = some v := by
  unfold rdLw
  simp only [ti_some _ ht, loadB, blt_of hq, cond_true, hg, hs]
  have hlt := (List.getElem?_eq_some_iff.1 hv).1
  have e1 : sub l o 1 = some [v] := by
   rw [sub_mk (by omega), List.drop_eq_getElem_cons hlt, (List.getElem?_eq_some_iff.1 hv).2]
   rfl
  simp only [e1, vOfCells, ha, cond_false]
 show (match rdLw x t (.p q o) (fun k => bif Nat.blt k h.next then h.mem.get k else en.get k) with | some a => sameV a v | none => false) = true
 rw [e]
 exact sameV_rflW v
end Go.Am
namespace Go.Am
open Go.ChangeShapes Go.WideShapes Go.ChangeAt Go.RowKit
abbrev Tb := List (Nat × IntKind × List Int)
def lay : Tb → T B
 | [] => .l
 | (g, k, zs) :: l => (lay l).put g (some (.c (zs.map (V.i k)) 0 false))
theorem lay_get : ∀ {l : Tb} {r : Nat} {b : B}, (lay l).get r = some b → ∃ x ∈ l, r = x.1 ∧ b = .c (x.2.2.map (V.i x.2.1)) 0 false
 | [], r, b, h => by simp [lay, T.get] at h
 | (g, k, zs) :: l, r, b, h => by
  simp only [lay, T.get_put] at h
  by_cases e : g = r
  ·rw [if_pos e] at h
   cases h
   exact ⟨_, List.mem_cons_self, e.symm, rfl⟩
  ·rw [if_neg e] at h
   obtain ⟨x, h1, h2⟩ := lay_get h
   exact ⟨x, List.mem_cons_of_mem _ h1, h2⟩
def LaidAt (w : World) (l : Tb) : Prop := ∀ x ∈ l, x.1 < 16 ∧ x.2.2 ≠ [] ∧ ∀ i z, x.2.2[i]? = some z → w.cell? ⟨x.1, i, none⟩ = some (.int x.2.1 z)
theorem LaidAt.nil (w : World) : LaidAt w [] := fun x h => by cases h
theorem LaidAt.cons {w : World} {P : Program} {name : String} {k : IntKind} {zs : List Int} {g : Nat} {l : Tb} (h : Lib.TabIs P w name k zs) (hg : P.globalNamed name = some g) (h1 : g < 16) (h2 : zs ≠ []) (hl : LaidAt w l) : LaidAt w ((g, k, zs) :: l) := by
 intro x hx
 rcases List.mem_cons.1 hx with rfl | hx
 ·refine ⟨h1, h2, fun i z hz => ?_⟩
  have := World.var?_cell hg h i
  rw [this]
  simp [hz]
 ·exact hl x hx
theorem laid_lt {w : World} {c o : Nat} {v : Value} (h : w.cell? ⟨c, o, none⟩ = some v) : c < w.heap.size := by
 unfold World.cell? at h
 split at h
 ·rename_i cs e f hc
  exact (Array.getElem?_eq_some_iff.1 hc).1
 ·cases h
theorem hrel_laid (P : Program) {w : World} {l : Tb} (h : LaidAt w l) (n : Nat) (hn : 16 ≤ n) : HRel P w.heap.size j0 ⟨n, lay l⟩ w := by
 refine HRel.start P w n (lay l) hn fun r b hb => ?_
 obtain ⟨x, hx, rfl, rfl⟩ := lay_get hb
 obtain ⟨h1, h2, h3⟩ := h x hx
 refine ⟨h1, ?_, _, _, rfl, fun i u hu => ?_⟩
 ·cases hz : x.2.2 with
  | nil => exact absurd hz h2
  | cons z zs => exact laid_lt (h3 0 z (by rw [hz]; rfl))
 ·rw [List.getElem?_map] at hu
  obtain ⟨z, hz, rfl⟩ := Option.map_eq_some_iff.1 hu
  exact ⟨_, by rw [Nat.zero_add]; exact h3 i z hz, rfl⟩
theorem tabIs_of_reads {P : Program} {W : World} {name : String} {k : IntKind} {zs : List Int} {g : Nat} {t e : TypeId} {n : Nat}
  (hg : P.globalNamed name = some g) (hty : (P.globals[g]?).map (·.type) = some t) (ht : P.underlying t = some (.array n e)) (he : P.underlying e = some (.int k)) (hce : P.cellsOf e = 1) (hct : P.cellsOf t = n)
  (h : Lib.VarReads P W name (Lib.tabData k zs)) : Lib.TabIs P W name k zs := by
 obtain ⟨g', t', cs, fuel, p, hg', ht', hvar, hd⟩ := h
 obtain rfl := Option.some.inj (hg.symm.trans hg')
 obtain rfl := Option.some.inj (hty.symm.trans ht')
 unfold Lib.TabIs
 rw [hvar, ← Lib.cells_of_tab ht he hce hct hd]
def runL (P : Program) (k n : Nat) (f : FuncId) (args : List V) (l : Tb) : Option V := (sem (mkX P) k n f args ⟨16, lay l⟩).map (·.1)
theorem calls_laid {P : Program} {k n m : Nat} {f : FuncId} {args : List V} {h' : H} {l : Tb} (hm : 16 ≤ m) (hh : sem (mkX P) k n f args ⟨m, lay l⟩ = some (.b true, h')) (w : World) (hl : LaidAt w l) {args' : List Value} (ha : rens j0 args = some args') :
  Calls P f ⟨args'⟩ w fun e w' => e = .returned (.bool true) ∧ Below w.heap.size w w' := by
 refine Calls.mono (sem_calls ⟨_, rfl⟩ hh (hrel_laid P hl m hm) ha (fresh_j0 hm)) ?_
 rintro e w' ⟨v', j', rfl, s, hv⟩
 rw [inv_b hv]
 exact ⟨rfl, s.below (hrel_laid P hl m hm)⟩
theorem calls_runL {P : Program} {k n : Nat} {f : FuncId} {args : List V} {l : Tb} (h : isTrue (runL P k n f args l) = true) (w : World) (hl : LaidAt w l) {args' : List Value} (ha : rens j0 args = some args') :
  Calls P f ⟨args'⟩ w fun e w' => e = .returned (.bool true) ∧ Below w.heap.size w w' := by
 unfold runL at h
 cases e : sem (mkX P) k n f args ⟨16, lay l⟩ with
 | none => rw [e] at h; cases h
 | some p =>
  obtain ⟨v, h'⟩ := p
  rw [e] at h
  simp only [Option.map_some, isTrue] at h
  split at h
  ·rename_i hv
   cases hv
   exact calls_laid (Nat.le_refl _) e w hl ha
  ·cases h
end Go.Am
namespace Go.Am
theorem handed_and_shaped {H : Type} {enc : TypeId × Value → H} {a : Assume} {C : Checked} {os : Os} {f : FuncId} {fn : Func} {s : ChangeSpec} {conds : List PathCond} {apart fresh handsOn again : Bool} {X : World → Array Value → Prop}
  (hX : ∀ (w w' : World) (args : Array Value), w.heap = w'.heap → X w args → X w' args)
  (own : ownKnob C.prog.godebug = none) (started : os.Started) (noInit : C.prog.inits.idxOf? f = none) (hfn : C.prog.funcs[f]? = some fn)
  (witness : ∃ (w : World) (tape : Tape) (i : Input), w.os = os ∧ (w.forCall tape i).Shaped C.prog ∧ i.vars = [] ∧ Input.okWide C.prog (w.forCall tape i) .any w.heap.size f i ∧
   ((s.pre enc C.prog fn conds apart (w.forCall tape i).memory i.args ∧ X (w.forCall tape i).memory i.args) ∧ sizedMet enc C.prog fn (OpenSpec.ofChange s) apart (w.forCall tape i).memory i.args) ∧ a.holds C.prog (lone (Frame.enter C.prog f i.args .normal) [] (w.forCall tape i)))
  (contract : ∀ (W : World) (base : Nat) (args : Array Value) (ds gs : List (DataW H)) (before : List MemPlace), W.ShapedOpen C.prog →
   (∀ (j : Nat) t v, fn.params[j]? = some t → args[j]? = some v → Value.okWide C.prog W .any base t v) →
   DataW.Whole enc C.prog fn.params.toList s.vars apart W args.toList ds gs before → X W args →
   Calls C.prog f args W fun e W' => ∃ v, e = .returned v ∧ s.post enc C.prog fn apart fresh handsOn again W args v W') :
  ReturnsInHanded a C os f .any (fun w args => (s.pre enc C.prog fn conds apart w args ∧ X w args) ∧ sizedMet enc C.prog fn (OpenSpec.ofChange s) apart w args) (s.post enc C.prog fn apart fresh handsOn again) := by
 refine returnsInHanded_of_calls own started noInit witness ?_
 intro w tape i _ hs _ hok hpre _
 obtain ⟨_, _, _, fn', hfn', _, _, _, _, hval⟩ := hok
 obtain rfl : fn' = fn := Option.some.inj (hfn'.symm.trans hfn)
 obtain ⟨⟨⟨ds, gs, before, hw, _⟩, hx⟩, _⟩ := hpre
 refine (contract (w.forCall tape i) w.heap.size i.args ds gs before hs hval (DataW.Whole.of_heap (w' := w.forCall tape i) (by rfl) hw) (hX _ _ _ (by rfl) hx)).mono fun e W' ⟨v, he, hp⟩ => ?_
 subst he
 exact ChangeSpec.post_blind hp
end Go.Am
