/- The machine with names for integers: what a name is, trees of questions, values. -/
import Derived.Test.YthmnfjaogoennaaAm4
set_option linter.unusedSimpArgs false
set_option linter.unusedVariables false
set_option linter.unusedSectionVars false
set_option linter.unnecessarySimpa false
namespace Go.Am

/-- From here on an integer is a name. -/
def nameB : Nat := 18446744073709551616

def conc (n : Int) : Bool := match n with
  | .ofNat m => Nat.blt m nameB
  | .negSucc _ => true

def vi (ρ : Nat → Int) (n : Int) : Int := match n with
  | .ofNat m => bif Nat.blt m nameB then n else ρ (m - nameB)
  | .negSucc _ => n

def bytesV : List V → List UInt8
  | [] => []
  | .i _ n :: l => UInt8.ofNat n.toNat :: bytesV l
  | _ :: l => 0 :: bytesV l

mutual
def val (ρ : Nat → Int) : V → V
  | .b x => .b x
  | .i k n => .i k (vi ρ n)
  | .s l => .s l
  | .np => .np
  | .p r o => .p r o
  | .ns => .ns
  | .sl r o n cap el => .sl r o n cap el
  | .se r o' o => .se r o' o
  | .ze r => .ze r
  | .nm => .nm
  | .m r => .m r
  | .nf => .nf
  | .f fn caps => bif Nat.blt fn nameB then .f fn (vals ρ caps) else .s (bytesV (vals ρ caps))
  | .ni => .ni
  | .ic t v => .ic t (val ρ v)
  | .a l => .a (vals ρ l)
  | .t l => .t (vals ρ l)
def vals (ρ : Nat → Int) : List V → List V
  | [] => []
  | v :: l => val ρ v :: vals ρ l
end

mutual
/-- No name in it. -/
def clean : V → Bool
  | .i _ n => conc n
  | .f fn caps => Nat.blt fn nameB && cleans caps
  | .ic _ v => clean v
  | .a l => cleans l
  | .t l => cleans l
  | _ => true
def cleans : List V → Bool
  | [] => true
  | v :: l => clean v && cleans l
end

/-- How a name came to be. -/
inductive D where
  | ib (op : BinOp) (k : IntKind) (x y : Int)
  | sh (op : BinOp) (k : IntKind) (x y : Int)
  | un (op : UnOp) (k : IntKind) (x : Int)
  | wr (k : IntKind) (x : Int)
  | by_ (x : Int)

/-- A question. -/
inductive Qn where
  | lt (x y : Int)
  | le (x y : Int)
  | eq (x y : Int)

def intOf : Option V → Option Int
  | some (.i _ n) => some n
  | _ => none

def evD (ρ : Nat → Int) : D → Option Int
  | .ib op k x y => intOf (ibin op k (vi ρ x) (vi ρ y))
  | .sh op k x y => intOf (shft op k (vi ρ x) (vi ρ y))
  | .un op k x => intOf (Am.un op (.i k (vi ρ x)))
  | .wr k x => some (k.wrap (vi ρ x))
  | .by_ x => some (UInt8.ofNat (vi ρ x).toNat).toNat

def evQ (ρ : Nat → Int) : Qn → Bool
  | .lt x y => decide (vi ρ x < vi ρ y)
  | .le x y => decide (vi ρ x ≤ vi ρ y)
  | .eq x y => decide (vi ρ x = vi ρ y)

/-- What a run asks. -/
inductive Tr (α : Type) where
  | ret (a : α)
  | fail
  | new (m : Nat) (d : D) (t : Tr α)
  | is (d : D) (x : Int) (t : Tr α)
  | fork (q : Qn) (a b : Tr α)

namespace Tr
variable {α β : Type}
def bind : Tr α → (α → Tr β) → Tr β
  | .ret a, f => f a
  | .fail, _ => .fail
  | .new m d t, f => .new m d (bind t f)
  | .is d x t, f => .is d x (bind t f)
  | .fork q a b, f => .fork q (bind a f) (bind b f)

def run (ρ : Nat → Int) : Tr α → Option α
  | .ret a => some a
  | .fail => none
  | .new m d t => match evD ρ d with
    | some r => if ρ m = r then run ρ t else none
    | none => none
  | .is d x t => match evD ρ d with
    | some r => if vi ρ x = r then run ρ t else none
    | none => none
  | .fork q a b => bif evQ ρ q then run ρ a else run ρ b

theorem run_bind (ρ : Nat → Int) (f : α → Tr β) : ∀ t : Tr α, (bind t f).run ρ = (t.run ρ).bind fun a => (f a).run ρ
  | .ret a => rfl
  | .fail => rfl
  | .new m d t => by
    simp only [bind, run, run_bind ρ f t]
    cases evD ρ d with
    | none => rfl
    | some r => by_cases h : ρ m = r <;> simp [h]
  | .is d x t => by
    simp only [bind, run, run_bind ρ f t]
    cases evD ρ d with
    | none => rfl
    | some r => by_cases h : vi ρ x = r <;> simp [h]
  | .fork q a b => by
    simp only [bind, run, run_bind ρ f a, run_bind ρ f b]
    cases evQ ρ q <;> rfl

theorem run_some {ρ : Nat → Int} {f : α → Tr β} {t : Tr α} {b : β} (h : (bind t f).run ρ = some b) : ∃ a, t.run ρ = some a ∧ (f a).run ρ = some b := by
  rw [run_bind] at h
  cases e : t.run ρ with
  | none => rw [e] at h; cases h
  | some a => rw [e] at h; exact ⟨a, rfl, h⟩
end Tr

/-- Answers, ahead of the questions. -/
inductive Orc where
  | done
  | yes (o : Orc)
  | no (o : Orc)
  | fork (a b : Orc)
  | new (o : Orc)
  | is (x : Int) (o : Orc)

structure Sy where
  nx : Nat
  orc : Orc

abbrev M (α : Type) := Sy → Tr (α × Sy)

def pureM {α : Type} (a : α) : M α := fun s => .ret (a, s)
def failM {α : Type} : M α := fun _ => .fail
def bindM {α β : Type} (t : M α) (f : α → M β) : M β := fun s => (t s).bind fun p => f p.1 p.2
def liftM {α : Type} (o : Option α) : M α := fun s => match o with
  | some a => .ret (a, s)
  | none => .fail

def askM (q : Qn) : M Bool := fun s => match s.orc with
  | .yes o => .fork q (.ret (true, ⟨s.nx, o⟩)) .fail
  | .no o => .fork q .fail (.ret (false, ⟨s.nx, o⟩))
  | .fork a b => .fork q (.ret (true, ⟨s.nx, a⟩)) (.ret (false, ⟨s.nx, b⟩))
  | _ => .fail

def defM (d : D) : M Int := fun s => match s.orc with
  | .new o => .new s.nx d (fN (nameB + s.nx) fun z => fN (s.nx + 1) fun n => .ret ((z : Int), ⟨n, o⟩))
  | .is x o => .is d x (.ret (x, ⟨s.nx, o⟩))
  | _ => .fail

/-- A run that holds for the names' values. -/
def Runs {α : Type} (ρ : Nat → Int) (t : M α) (s : Sy) (a : α) (s' : Sy) : Prop := (t s).run ρ = some (a, s')

section
variable {α β : Type} {ρ : Nat → Int} {s s' : Sy}

theorem runs_pure {a b : α} (h : Runs ρ (pureM a) s b s') : b = a ∧ s' = s := by
  simp only [Runs, pureM, Tr.run, Option.some.injEq, Prod.mk.injEq] at h
  exact ⟨h.1.symm, h.2.symm⟩

theorem runs_fail {a : α} (h : Runs ρ failM s a s') : False := by
  simp only [Runs, failM, Tr.run] at h; cases h

theorem runs_lift {o : Option α} {a : α} (h : Runs ρ (liftM o) s a s') : o = some a ∧ s' = s := by
  unfold Runs liftM at h
  cases o with
  | none => simp only [Tr.run] at h; cases h
  | some b =>
    simp only [Tr.run, Option.some.injEq, Prod.mk.injEq] at h
    rw [h.1, h.2]; exact ⟨rfl, rfl⟩

theorem runs_bind {t : M α} {f : α → M β} {b : β} (h : Runs ρ (bindM t f) s b s') : ∃ a s1, Runs ρ t s a s1 ∧ Runs ρ (f a) s1 b s' := by
  unfold Runs bindM at h
  obtain ⟨⟨a, s1⟩, h1, h2⟩ := Tr.run_some h
  exact ⟨a, s1, h1, h2⟩

theorem runs_ask {q : Qn} {b : Bool} (h : Runs ρ (askM q) s b s') : evQ ρ q = b := by
  unfold Runs askM at h
  split at h
  · simp only [Tr.run] at h
    cases e : evQ ρ q <;> rw [e] at h <;> simp at h
    rw [h.1]
  · simp only [Tr.run] at h
    cases e : evQ ρ q <;> rw [e] at h <;> simp at h
    rw [h.1]
  · simp only [Tr.run] at h
    cases e : evQ ρ q <;> rw [e] at h <;> simp at h
    · rw [h.1]
    · rw [h.1]
  · simp only [Tr.run] at h; cases h

theorem vi_name (ρ : Nat → Int) (m : Nat) : vi ρ ((nameB + m : Nat) : Int) = ρ m := by
  have h : Nat.blt (nameB + m) nameB = false := by
    cases e : Nat.blt (nameB + m) nameB with
    | false => rfl
    | true => have := Nat.le_of_ble_eq_true e; omega
  simp only [vi, Int.ofNat_eq_natCast]
  show (bif Nat.blt (nameB + m) nameB then _ else _) = _
  rw [h]
  simp only [cond_false, Nat.add_sub_cancel_left]

theorem runs_def {d : D} {z : Int} (h : Runs ρ (defM d) s z s') : evD ρ d = some (vi ρ z) := by
  unfold Runs defM at h
  split at h
  · simp only [Tr.run, fN_eq] at h
    cases e : evD ρ d with
    | none => rw [e] at h; cases h
    | some r =>
      rw [e] at h
      simp only at h
      split at h
      · rename_i hr
        simp only [Option.some.injEq, Prod.mk.injEq] at h
        rw [← h.1, vi_name, hr]
      · cases h
  · simp only [Tr.run] at h
    cases e : evD ρ d with
    | none => rw [e] at h; cases h
    | some r =>
      rw [e] at h
      simp only at h
      split at h
      · rename_i hr
        simp only [Option.some.injEq, Prod.mk.injEq] at h
        rw [← h.1, hr]
      · cases h
  · simp only [Tr.run] at h; cases h
end

/-! ### Names and values -/

theorem vi_conc {ρ : Nat → Int} {n : Int} (h : conc n = true) : vi ρ n = n := by
  cases n with
  | ofNat m => simp only [conc] at h; simp only [vi, h, cond_true]
  | negSucc m => rfl

mutual
theorem val_clean (ρ : Nat → Int) : ∀ v : V, clean v = true → val ρ v = v
  | .b _, _ | .s _, _ | .np, _ | .p _ _, _ | .ns, _ | .sl _ _ _ _ _, _ | .se _ _ _, _ | .ze _, _ | .nm, _ | .m _, _ | .nf, _ | .ni, _ => by simp [val]
  | .i k n, h => by simp only [clean] at h; simp only [val, vi_conc h]
  | .f fn caps, h => by
    simp only [clean, Bool.and_eq_true] at h
    simp only [val, h.1, cond_true, vals_clean ρ caps h.2]
  | .ic t v, h => by simp only [clean] at h; simp only [val, val_clean ρ v h]
  | .a l, h => by simp only [clean] at h; simp only [val, vals_clean ρ l h]
  | .t l, h => by simp only [clean] at h; simp only [val, vals_clean ρ l h]
theorem vals_clean (ρ : Nat → Int) : ∀ l : List V, cleans l = true → vals ρ l = l
  | [], _ => by simp [vals]
  | v :: l, h => by
    simp only [cleans, Bool.and_eq_true] at h
    simp only [vals, val_clean ρ v h.1, vals_clean ρ l h.2]
end

theorem vals_map (ρ : Nat → Int) : ∀ l : List V, vals ρ l = l.map (val ρ)
  | [] => by simp [vals]
  | v :: l => by simp [vals, vals_map ρ l]

/-! ### Maps -/
namespace T
variable {α β : Type}
def mp (f : α → β) : T α → T β
  | .l => .l
  | .n a v b => .n (mp f a) (v.map f) (mp f b)

theorem get_mp (f : α → β) (t : T α) : ∀ i, (t.mp f).get i = (t.get i).map f := by
  induction t with
  | l => intro i; rfl
  | n a v b iha ihb =>
    intro i
    cases i with
    | zero => rfl
    | succ i =>
      simp only [mp, get]
      cases Nat.beq (i % 2) 0 with
      | true => simp only [cond_true, iha]
      | false => simp only [cond_false, ihb]

theorem single_mp (f : α → β) : ∀ (d i : Nat) (v : Option α), (single d i v).mp f = single d i (v.map f)
  | 0, i, v => rfl
  | d + 1, 0, v => rfl
  | d + 1, i + 1, v => by
    simp only [single, seq_eq]
    cases Nat.beq (i % 2) 0 with
    | true => simp only [cond_true, mp, single_mp f d, Option.map_none]
    | false => simp only [cond_false, mp, single_mp f d, Option.map_none]

theorem put_mp (f : α → β) (t : T α) : ∀ (i : Nat) (v : Option α), (t.put i v).mp f = (t.mp f).put i (v.map f) := by
  induction t with
  | l => intro i v; simp only [put, mp, single_mp]
  | n a x b iha ihb =>
    intro i v
    cases i with
    | zero => simp only [put, mp]
    | succ i =>
      simp only [put, mp, seq_eq]
      cases Nat.beq (i % 2) 0 with
      | true => simp only [cond_true, mp, iha]
      | false => simp only [cond_false, mp, ihb]
end T

def valE (ρ : Nat → Int) (e : Env) : Env := e.mp (val ρ)

def valM (ρ : Nat → Int) : List (V × V × Nat) → List (V × V × Nat)
  | [] => []
  | (k, v, c) :: l => (val ρ k, val ρ v, c) :: valM ρ l

def valB (ρ : Nat → Int) : B → B
  | .c l ty own => .c (vals ρ l) ty own
  | .mp es c => .mp (valM ρ es) c
  | .it s pos => .it s pos

def valH (ρ : Nat → Int) (h : H) : H := ⟨h.next, h.mem.mp (valB ρ)⟩

theorem gv_val (ρ : Nat → Int) (e : Env) (t : Nat) : gv (valE ρ e) t = val ρ (gv e t) := by
  simp only [gv, valE, T.get_mp]
  cases e.get t with
  | none => simp [undefV, val, vals]
  | some v => rfl

end Go.Am
