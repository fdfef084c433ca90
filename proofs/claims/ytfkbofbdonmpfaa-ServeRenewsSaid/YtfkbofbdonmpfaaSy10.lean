/- The machine with names for integers: a whole run, and what is to be shown of it. -/
import Derived.Test.YtfkbofbdonmpfaaSy9
import Derived.Test.YtfkbofbdonmpfaaAm29
set_option linter.unusedSimpArgs false
set_option linter.unusedVariables false
set_option linter.unusedSectionVars false
set_option linter.unnecessarySimpa false
namespace Go.Am
open Go.ChangeShapes Go.WideShapes Go.ChangeAt Go.RowKit

/-- A number, or a name. -/
inductive O where
  | c (n : Int)
  | v (i : Nat)
  | a (i : Nat) (n : Int)

def O.code : O → Int
  | .c n => n
  | .v i => ((nameB + (midB + stepB * i) : Nat) : Int)
  | .a i n => ((nameB + (((midB : Int) + n).toNat + stepB * i) : Nat) : Int)

def O.val (l : List Int) : O → Int
  | .c n => n
  | .v i => l.getD i 0
  | .a i n => l.getD i 0 + n

def O.ok (n : Nat) : O → Bool
  | .c z => conc z
  | .v i => Nat.blt i n
  | .a i z => Nat.blt i n && decide (-(midB : Int) ≤ z) && decide (z < (midB : Int))

inductive Dd where
  | ib (op : BinOp) (k : IntKind) (x y : O)
  | sh (op : BinOp) (k : IntKind) (x y : O)
  | un (op : UnOp) (k : IntKind) (x : O)
  | wr (k : IntKind) (x : O)
  | by_ (x : O)

def Dd.code : Dd → D
  | .ib op k x y => .ib op k x.code y.code
  | .sh op k x y => .sh op k x.code y.code
  | .un op k x => .un op k x.code
  | .wr k x => .wr k x.code
  | .by_ x => .by_ x.code

def Dd.val (l : List Int) : Dd → Option Int
  | .ib op k x y => intOf (ibin op k (x.val l) (y.val l))
  | .sh op k x y => intOf (shft op k (x.val l) (y.val l))
  | .un op k x => intOf (Am.un op (.i k (x.val l)))
  | .wr k x => some (k.wrap (x.val l))
  | .by_ x => some (UInt8.ofNat (x.val l).toNat).toNat

def Dd.ok (n : Nat) : Dd → Bool
  | .ib _ _ x y => x.ok n && y.ok n
  | .sh _ _ x y => x.ok n && y.ok n
  | .un _ _ x => x.ok n
  | .wr _ x => x.ok n
  | .by_ x => x.ok n

inductive Qq where
  | lt (x y : O)
  | le (x y : O)
  | eq (x y : O)

def Qq.code : Qq → Qn
  | .lt x y => .lt x.code y.code
  | .le x y => .le x.code y.code
  | .eq x y => .eq x.code y.code

def Qq.holds (l : List Int) : Qq → Prop
  | .lt x y => x.val l < y.val l
  | .le x y => x.val l ≤ y.val l
  | .eq x y => x.val l = y.val l

def Qq.ok (n : Nat) : Qq → Bool
  | .lt x y => x.ok n && y.ok n
  | .le x y => x.ok n && y.ok n
  | .eq x y => x.ok n && y.ok n

/-- A tree, as it is read. -/
inductive Pt where
  | done
  | new (d : Dd) (t : Pt)
  | is (d : Dd) (x : O) (t : Pt)
  | yes (q : Qq) (t : Pt)
  | no (q : Qq) (t : Pt)
  | fork (q : Qq) (a b : Pt)

def Pt.tr : Nat → Pt → Tr Unit
  | _, .done => .ret ()
  | n, .new d t => .new n d.code (tr (n + 1) t)
  | n, .is d x t => .is d.code x.code (tr n t)
  | n, .yes q t => .fork q.code (tr n t) .fail
  | n, .no q t => .fork q.code .fail (tr n t)
  | n, .fork q a b => .fork q.code (tr n a) (tr n b)

def Pt.orc : Pt → Orc
  | .done => .done
  | .new _ t => .new (orc t)
  | .is _ x t => .is x.code (orc t)
  | .yes _ t => .yes (orc t)
  | .no _ t => .no (orc t)
  | .fork _ a b => .fork (orc a) (orc b)

def Pt.ok : Nat → Pt → Bool
  | _, .done => true
  | n, .new d t => d.ok n && ok (n + 1) t
  | n, .is d x t => d.ok n && x.ok n && ok n t
  | n, .yes q t => q.ok n && ok n t
  | n, .no q t => q.ok n && ok n t
  | n, .fork q a b => q.ok n && ok n a && ok n b

/-- What is to be shown. -/
def Pt.holds : Pt → List Int → Prop
  | .done, _ => True
  | .new d t, l => ∃ z, d.val l = some z ∧ holds t (l ++ [z])
  | .is d x t, l => d.val l = some (x.val l) ∧ holds t l
  | .yes q t, l => q.holds l ∧ holds t l
  | .no q t, l => ¬ q.holds l ∧ holds t l
  | .fork q a b, l => (q.holds l → holds a l) ∧ (¬ q.holds l → holds b l)

section
variable {l l' : List Int}

def nmL (l : List Int) : Nat → Int := fun m => l.getD m 0

theorem O.val_code {o : O} (h : o.ok l.length = true) (k : List Int) : vi (nmL (l ++ k)) o.code = o.val l := by
  cases o with
  | c n => exact vi_conc h
  | v i =>
    have hi : i < l.length := Nat.le_of_ble_eq_true h
    simp only [O.code, vi_name, nmL, O.val, List.getD_eq_getElem?_getD, List.getElem?_append_left hi]
  | a i z =>
    simp only [O.ok, Bool.and_eq_true, decide_eq_true_eq] at h
    have hi : i < l.length := Nat.le_of_ble_eq_true h.1.1
    have h1 := h.1.2
    have h2 := h.2
    have hz : ((midB : Int) + z).toNat < stepB := by unfold midB at h1 h2 ⊢; unfold stepB; omega
    simp only [O.code, O.val]
    rw [vi_at _ i _ hz]
    simp only [nmL, List.getD_eq_getElem?_getD, List.getElem?_append_left hi]
    rw [Int.toNat_of_nonneg (by omega)]
    omega

theorem Dd.val_code {d : Dd} (h : d.ok l.length = true) (k : List Int) : evD (nmL (l ++ k)) d.code = d.val l := by
  cases d <;> simp only [Dd.ok, Bool.and_eq_true] at h <;> simp only [Dd.code, evD, Dd.val]
  · rw [O.val_code h.1, O.val_code h.2]
  · rw [O.val_code h.1, O.val_code h.2]
  · rw [O.val_code h]
  · rw [O.val_code h]
  · rw [O.val_code h]

theorem Qq.val_code {q : Qq} (h : q.ok l.length = true) (k : List Int) : evQ (nmL (l ++ k)) q.code = true ↔ q.holds l := by
  cases q <;> simp only [Qq.ok, Bool.and_eq_true] at h <;> simp only [Qq.code, evQ, Qq.holds, decide_eq_true_eq]
  · rw [O.val_code h.1, O.val_code h.2]
  · rw [O.val_code h.1, O.val_code h.2]
  · rw [O.val_code h.1, O.val_code h.2]

theorem Pt.run_holds : ∀ (t : Pt) (l : List Int), t.ok l.length = true → t.holds l → ∃ k, (t.tr l.length).run (nmL (l ++ k)) = some ()
  | .done, l, _, _ => ⟨[], rfl⟩
  | .new d t, l, ho, hh => by
    simp only [Pt.ok, Bool.and_eq_true] at ho
    obtain ⟨z, h1, h2⟩ := hh
    obtain ⟨k, hk⟩ := Pt.run_holds t (l ++ [z]) (by rw [List.length_append]; exact ho.2) h2
    refine ⟨z :: k, ?_⟩
    simp only [Pt.tr, Tr.run, Dd.val_code ho.1, h1]
    have hz : nmL (l ++ z :: k) l.length = z := by
      simp [nmL, List.getD_eq_getElem?_getD, List.getElem?_append_right]
    rw [if_pos hz]
    rw [List.length_append, List.append_assoc] at hk
    exact hk
  | .is d x t, l, ho, hh => by
    simp only [Pt.ok, Bool.and_eq_true] at ho
    obtain ⟨h1, h2⟩ := hh
    obtain ⟨k, hk⟩ := Pt.run_holds t l ho.2 h2
    refine ⟨k, ?_⟩
    simp only [Pt.tr, Tr.run, Dd.val_code ho.1.1, h1, O.val_code ho.1.2, if_true]
    exact hk
  | .yes q t, l, ho, hh => by
    simp only [Pt.ok, Bool.and_eq_true] at ho
    obtain ⟨k, hk⟩ := Pt.run_holds t l ho.2 hh.2
    refine ⟨k, ?_⟩
    simp only [Pt.tr, Tr.run, (Qq.val_code ho.1 k).2 hh.1, cond_true]
    exact hk
  | .no q t, l, ho, hh => by
    simp only [Pt.ok, Bool.and_eq_true] at ho
    obtain ⟨k, hk⟩ := Pt.run_holds t l ho.2 hh.2
    refine ⟨k, ?_⟩
    have : evQ (nmL (l ++ k)) q.code = false := by
      cases e : evQ (nmL (l ++ k)) q.code with
      | false => rfl
      | true => exact absurd ((Qq.val_code ho.1 k).1 e) hh.1
    simp only [Pt.tr, Tr.run, this, cond_false]
    exact hk
  | .fork q a b, l, ho, hh => by
    simp only [Pt.ok, Bool.and_eq_true] at ho
    by_cases hq : q.holds l
    · obtain ⟨k, hk⟩ := Pt.run_holds a l ho.1.2 (hh.1 hq)
      refine ⟨k, ?_⟩
      simp only [Pt.tr, Tr.run, (Qq.val_code ho.1.1 k).2 hq, cond_true]
      exact hk
    · obtain ⟨k, hk⟩ := Pt.run_holds b l ho.2 (hh.2 hq)
      refine ⟨k, ?_⟩
      have : evQ (nmL (l ++ k)) q.code = false := by
        cases e : evQ (nmL (l ++ k)) q.code with
        | false => rfl
        | true => exact absurd ((Qq.val_code ho.1.1 k).1 e) hq
      simp only [Pt.tr, Tr.run, this, cond_false]
      exact hk
end

theorem ends_true {ρ : Nat → Int} {t : Tr ((V × H) × Sy)} (h : (ends t).run ρ = some ()) : ∃ h' s', t.run ρ = some ((.b true, h'), s') := by
  obtain ⟨⟨⟨v, h'⟩, s'⟩, h1, h2⟩ := Tr.run_some h
  simp only at h2
  split at h2
  · exact ⟨h', s', h1⟩
  · cases h2

/-- FROM A RUN WITH NAMES TO THE PROGRAM: integers and bools as arguments. -/
theorem calls_names {P : Program} {k n : Nat} {f : FuncId} {args : List V} {T : Pt} {l : List Int} (hr : runY P k n f args [] l.length T.orc = T.tr l.length) (ho : T.ok l.length = true) (hh : T.holds l)
    (w : World) {args' : List Value} (ha : ∀ k, rens (fun _ => none) (vals (nmL (l ++ k)) args) = some args') :
    Calls P f ⟨args'⟩ w fun e w' => e = .returned (.bool true) ∧ Below w.heap.size w w' := by
  obtain ⟨q, hq⟩ := Pt.run_holds T l ho hh
  rw [← hr] at hq
  unfold runY at hq
  simp only at hq
  cases hx : xClean (mkX P) with
  | false => rw [hx] at hq; simp [Tr.run] at hq
  | true =>
    rw [hx] at hq
    simp only [cond_true, runY.laid] at hq
    have hq := slim_run _ _ _ _ (by simp) (by simp) hq
    obtain ⟨h', s', h1⟩ := ends_true hq
    have h2 := semY_ok (xClean_ok hx) k n f args _ _ _ _ _ h1
    exact calls_true h2 w (ha q)

end Go.Am
