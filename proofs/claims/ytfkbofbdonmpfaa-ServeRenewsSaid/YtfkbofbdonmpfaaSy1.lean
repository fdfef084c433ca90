/- The machine with names for integers: what a name is, trees of questions, values. -/
import Derived.Test.YtfkbofbdonmpfaaAm4
set_option linter.unusedSimpArgs false
set_option linter.unusedVariables false
set_option linter.unusedSectionVars false
set_option linter.unnecessarySimpa false
namespace Go.Am

/-- From here on an integer is a name. -/
def nameB : Nat := 18446744073709551616

/-- Names with a number added to them: a step from a name to the next, and where nothing is added. -/
def stepB : Nat := 2199023255552
def midB : Nat := 1099511627776

def conc (n : Int) : Bool := match n with
  | .ofNat m => Nat.blt m nameB
  | .negSucc _ => true

def vi (ρ : Nat → Int) (n : Int) : Int := match n with
  | .ofNat m => bif Nat.blt m nameB then n else ρ ((m - nameB) / stepB) + (((m - nameB) % stepB : Nat) : Int) - (midB : Int)
  | .negSucc _ => n

def bytesV : List V → List UInt8
  | [] => []
  | .i _ n :: l => UInt8.ofNat n.toNat :: bytesV l
  | _ :: l => 0 :: bytesV l

mutual
def val (ρ : Nat → Int) : V → V
  | .b x => .b x
  | .i k n => .i k (vi ρ n)
  | .s l => .s l
  | .np => .np
  | .p r o => .p r o
  | .ns => .ns
  | .sl r o n cap el => .sl r o n cap el
  | .se r o' o => .se r o' o
  | .ze r => .ze r
  | .nm => .nm
  | .m r => .m r
  | .nf => .nf
  | .f fn caps => bif Nat.blt fn nameB then .f fn (vals ρ caps) else .s (bytesV (vals ρ caps))
  | .ni => .ni
  | .ic t v => .ic t (val ρ v)
  | .a l => .a (vals ρ l)
  | .t l => .t (vals ρ l)
def vals (ρ : Nat → Int) : List V → List V
  | [] => []
  | v :: l => val ρ v :: vals ρ l
end

mutual
/-- No name in it. -/
def clean : V → Bool
  | .i _ n => conc n
  | .f fn caps => Nat.blt fn nameB && cleans caps
  | .ic _ v => clean v
  | .a l => cleans l
  | .t l => cleans l
  | _ => true
def cleans : List V → Bool
  | [] => true
  | v :: l => clean v && cleans l
end

/-- How a name came to be. -/
inductive D where
  | ib (op : BinOp) (k : IntKind) (x y : Int)
  | sh (op : BinOp) (k : IntKind) (x y : Int)
  | un (op : UnOp) (k : IntKind) (x : Int)
  | wr (k : IntKind) (x : Int)
  | by_ (x : Int)

/-- A question. -/
inductive Qn where
  | lt (x y : Int)
  | le (x y : Int)
  | eq (x y : Int)

def intOf : Option V → Option Int
  | some (.i _ n) => some n
  | _ => none

def evD (ρ : Nat → Int) : D → Option Int
  | .ib op k x y => intOf (ibin op k (vi ρ x) (vi ρ y))
  | .sh op k x y => intOf (shft op k (vi ρ x) (vi ρ y))
  | .un op k x => intOf (Am.un op (.i k (vi ρ x)))
  | .wr k x => some (k.wrap (vi ρ x))
  | .by_ x => some (UInt8.ofNat (vi ρ x).toNat).toNat

def evQ (ρ : Nat → Int) : Qn → Bool
  | .lt x y => decide (vi ρ x < vi ρ y)
  | .le x y => decide (vi ρ x ≤ vi ρ y)
  | .eq x y => decide (vi ρ x = vi ρ y)

/-- What a run asks. -/
inductive Tr (α : Type) where
  | ret (a : α)
  | fail
  | new (m : Nat) (d : D) (t : Tr α)
  | is (d : D) (x : Int) (t : Tr α)
  | fork (q : Qn) (a b : Tr α)

namespace Tr
variable {α β : Type}
def bind : Tr α → (α → Tr β) → Tr β
  | .ret a, f => f a
  | .fail, _ => .fail
  | .new m d t, f => .new m d (bind t f)
  | .is d x t, f => .is d x (bind t f)
  | .fork q a b, f => .fork q (bind a f) (bind b f)

def run (ρ : Nat → Int) : Tr α → Option α
  | .ret a => some a
  | .fail => none
  | .new m d t => match evD ρ d with
    | some r => if ρ m = r then run ρ t else none
    | none => none
  | .is d x t => match evD ρ d with
    | some r => if vi ρ x = r then run ρ t else none
    | none => none
  | .fork q a b => bif evQ ρ q then run ρ a else run ρ b

theorem run_bind (ρ : Nat → Int) (f : α → Tr β) : ∀ t : Tr α, (bind t f).run ρ = (t.run ρ).bind fun a => (f a).run ρ
  | .ret a => rfl
  | .fail => rfl
  | .new m d t => by
    simp only [bind, run, run_bind ρ f t]
    cases evD ρ d with
    | none => rfl
    | some r => by_cases h : ρ m = r <;> simp [h]
  | .is d x t => by
    simp only [bind, run, run_bind ρ f t]
    cases evD ρ d with
    | none => rfl
    | some r => by_cases h : vi ρ x = r <;> simp [h]
  | .fork q a b => by
    simp only [bind, run, run_bind ρ f a, run_bind ρ f b]
    cases evQ ρ q <;> rfl

theorem run_some {ρ : Nat → Int} {f : α → Tr β} {t : Tr α} {b : β} (h : (bind t f).run ρ = some b) : ∃ a, t.run ρ = some a ∧ (f a).run ρ = some b := by
  rw [run_bind] at h
  cases e : t.run ρ with
  | none => rw [e] at h; cases h
  | some a => rw [e] at h; exact ⟨a, rfl, h⟩
end Tr

/-- Answers, ahead of the questions. -/
inductive Orc where
  | done
  | yes (o : Orc)
  | no (o : Orc)
  | fork (a b : Orc)
  | new (o : Orc)
  | is (x : Int) (o : Orc)

def sameI (m n : Int) : Bool := match m, n with
  | .ofNat a, .ofNat b => Nat.beq a b
  | .negSucc a, .negSucc b => Nat.beq a b
  | _, _ => false

def sameQ : Qn → Qn → Bool
  | .lt x y, .lt x' y' => sameI x x' && sameI y y'
  | .le x y, .le x' y' => sameI x x' && sameI y y'
  | .eq x y, .eq x' y' => sameI x x' && sameI y y'
  | _, _ => false

def sameD : D → D → Bool
  | .ib op k x y, .ib op' k' x' y' => sameI x x' && sameI y y' && decide (op = op') && decide (k = k')
  | .sh op k x y, .sh op' k' x' y' => sameI x x' && sameI y y' && decide (op = op') && decide (k = k')
  | .un op k x, .un op' k' x' => sameI x x' && decide (op = op') && decide (k = k')
  | .wr k x, .wr k' x' => sameI x x' && decide (k = k')
  | .by_ x, .by_ x' => sameI x x'
  | _, _ => false

def findQ (q : Qn) : List (Qn × Bool) → Option Bool
  | [] => none
  | (q', b) :: l => bif sameQ q q' then some b else findQ q l

def findD (d : D) : List (D × Int) → Option Int
  | [] => none
  | (d', x) :: l => bif sameD d d' then some x else findD d l

/-- What was answered lately is not asked again. -/
structure Sy where
  nx : Nat
  orc : Orc
  kq : List (Qn × Bool)
  kd : List (D × Int)

def keep {α : Type} (a : α) (l : List α) : List α := a :: l.take 31

abbrev M (α : Type) := Sy → Tr (α × Sy)

def pureM {α : Type} (a : α) : M α := fun s => .ret (a, s)
def failM {α : Type} : M α := fun _ => .fail
def bindM {α β : Type} (t : M α) (f : α → M β) : M β := fun s => (t s).bind fun p => f p.1 p.2
def liftM {α : Type} (o : Option α) : M α := fun s => match o with
  | some a => .ret (a, s)
  | none => .fail

def askM (q : Qn) : M Bool := fun s => match findQ q s.kq with
  | some true => .fork q (.ret (true, s)) .fail
  | some false => .fork q .fail (.ret (false, s))
  | none => match s.orc with
    | .yes o => .fork q (.ret (true, ⟨s.nx, o, keep (q, true) s.kq, s.kd⟩)) .fail
    | .no o => .fork q .fail (.ret (false, ⟨s.nx, o, keep (q, false) s.kq, s.kd⟩))
    | .fork a b => .fork q (.ret (true, ⟨s.nx, a, keep (q, true) s.kq, s.kd⟩)) (.ret (false, ⟨s.nx, b, keep (q, false) s.kq, s.kd⟩))
    | _ => .fail

def defM (d : D) : M Int := fun s => match findD d s.kd with
  | some x => .is d x (.ret (x, s))
  | none => match s.orc with
    | .new o => .new s.nx d (fN (nameB + (midB + stepB * s.nx)) fun z => fN (s.nx + 1) fun n => .ret ((z : Int), ⟨n, o, s.kq, keep (d, (z : Int)) s.kd⟩))
    | .is x o => .is d x (.ret (x, ⟨s.nx, o, s.kq, keep (d, x) s.kd⟩))
    | _ => .fail

/-- A run that holds for the names' values. -/
def Runs {α : Type} (ρ : Nat → Int) (t : M α) (s : Sy) (a : α) (s' : Sy) : Prop := (t s).run ρ = some (a, s')

section
variable {α β : Type} {ρ : Nat → Int} {s s' : Sy}

theorem runs_pure {a b : α} (h : Runs ρ (pureM a) s b s') : b = a ∧ s' = s := by
  simp only [Runs, pureM, Tr.run, Option.some.injEq, Prod.mk.injEq] at h
  exact ⟨h.1.symm, h.2.symm⟩

theorem runs_fail {a : α} (h : Runs ρ failM s a s') : False := by
  simp only [Runs, failM, Tr.run] at h; cases h

theorem runs_lift {o : Option α} {a : α} (h : Runs ρ (liftM o) s a s') : o = some a ∧ s' = s := by
  unfold Runs liftM at h
  cases o with
  | none => simp only [Tr.run] at h; cases h
  | some b =>
    simp only [Tr.run, Option.some.injEq, Prod.mk.injEq] at h
    rw [h.1, h.2]; exact ⟨rfl, rfl⟩

theorem runs_bind {t : M α} {f : α → M β} {b : β} (h : Runs ρ (bindM t f) s b s') : ∃ a s1, Runs ρ t s a s1 ∧ Runs ρ (f a) s1 b s' := by
  unfold Runs bindM at h
  obtain ⟨⟨a, s1⟩, h1, h2⟩ := Tr.run_some h
  exact ⟨a, s1, h1, h2⟩

theorem runs_fork {q : Qn} {b : Bool} {s1 s2 : Sy} {t : M Bool} (ht : t s = .fork q (.ret (true, s1)) .fail ∨ t s = .fork q .fail (.ret (false, s2)) ∨ t s = .fork q (.ret (true, s1)) (.ret (false, s2)) ∨ t s = .fail) (h : Runs ρ t s b s') : evQ ρ q = b := by
  unfold Runs at h
  rcases ht with ht | ht | ht | ht <;> rw [ht] at h <;> simp only [Tr.run] at h
  · cases e : evQ ρ q <;> rw [e] at h <;> simp at h
    rw [h.1]
  · cases e : evQ ρ q <;> rw [e] at h <;> simp at h
    rw [h.1]
  · cases e : evQ ρ q <;> rw [e] at h <;> simp at h
    · rw [h.1]
    · rw [h.1]
  · cases h

theorem runs_ask {q : Qn} {b : Bool} (h : Runs ρ (askM q) s b s') : evQ ρ q = b := by
  have ht : ∃ s1 s2, askM q s = .fork q (.ret (true, s1)) .fail ∨ askM q s = .fork q .fail (.ret (false, s2)) ∨ askM q s = .fork q (.ret (true, s1)) (.ret (false, s2)) ∨ askM q s = .fail := by
    unfold askM
    split
    · exact ⟨s, s, .inl rfl⟩
    · exact ⟨s, s, .inr (.inl rfl)⟩
    · split
      · exact ⟨_, s, .inl rfl⟩
      · exact ⟨s, _, .inr (.inl rfl)⟩
      · exact ⟨_, _, .inr (.inr (.inl rfl))⟩
      · exact ⟨s, s, .inr (.inr (.inr rfl))⟩
  obtain ⟨s1, s2, ht⟩ := ht
  exact runs_fork ht h

theorem div_at (b s i c : Nat) (h : c < s) : (b + (c + s * i) - b) / s = i := by
  rw [Nat.add_sub_cancel_left, Nat.add_mul_div_left _ _ (by omega), Nat.div_eq_of_lt h, Nat.zero_add]
theorem mod_at (b s i c : Nat) (h : c < s) : (b + (c + s * i) - b) % s = c := by
  rw [Nat.add_sub_cancel_left, Nat.add_mul_mod_self_left, Nat.mod_eq_of_lt h]
theorem blt_at (b d : Nat) : Nat.blt (b + d) b = false := by
  cases e : Nat.blt (b + d) b with
  | false => rfl
  | true => have := Nat.le_of_ble_eq_true e; omega

theorem vi_nat (ρ : Nat → Int) (m : Nat) : vi ρ (m : Int) = bif Nat.blt m nameB then (m : Int) else ρ ((m - nameB) / stepB) + (((m - nameB) % stepB : Nat) : Int) - (midB : Int) := rfl

theorem vi_at (ρ : Nat → Int) (i c : Nat) (h : c < stepB) : vi ρ ((nameB + (c + stepB * i) : Nat) : Int) = ρ i + (c : Int) - (midB : Int) := by
  rw [vi_nat, blt_at, cond_false, div_at _ _ _ _ h, mod_at _ _ _ _ h]

theorem vi_name (ρ : Nat → Int) (m : Nat) : vi ρ ((nameB + (midB + stepB * m) : Nat) : Int) = ρ m := by
  have h : midB < stepB := by decide
  rw [vi_at ρ m midB h]
  generalize (midB : Int) = z
  omega

theorem runs_is {d : D} {x z : Int} {s1 : Sy} (h : (Tr.is d x (.ret (x, s1))).run ρ = some (z, s')) : evD ρ d = some (vi ρ z) := by
  simp only [Tr.run] at h
  cases e : evD ρ d with
  | none => rw [e] at h; cases h
  | some r =>
    rw [e] at h
    simp only at h
    split at h
    · rename_i hr
      simp only [Option.some.injEq, Prod.mk.injEq] at h
      rw [← h.1, hr]
    · cases h

theorem runs_def {d : D} {z : Int} (h : Runs ρ (defM d) s z s') : evD ρ d = some (vi ρ z) := by
  unfold Runs defM at h
  split at h
  · exact runs_is h
  · split at h
    · simp only [Tr.run, fN_eq] at h
      cases e : evD ρ d with
      | none => rw [e] at h; cases h
      | some r =>
        rw [e] at h
        simp only at h
        split at h
        · rename_i hr
          simp only [Option.some.injEq, Prod.mk.injEq] at h
          rw [← h.1, vi_name, hr]
        · cases h
    · exact runs_is h
    · simp only [Tr.run] at h; cases h

/-! ### What was asked and answered is struck -/

theorem sameI_eq {m n : Int} (h : sameI m n = true) : m = n := by
  unfold sameI at h
  split at h
  · rw [Nat.eq_of_beq_eq_true h]
  · rw [Nat.eq_of_beq_eq_true h]
  · cases h

theorem sameQ_eq {p q : Qn} (h : sameQ p q = true) : p = q := by
  cases p <;> cases q <;> simp only [sameQ, Bool.false_eq_true, Bool.and_eq_true] at h <;> rw [sameI_eq h.1, sameI_eq h.2]

theorem sameD_eq {p q : D} (h : sameD p q = true) : p = q := by
  cases p <;> cases q <;> simp only [sameD, Bool.false_eq_true, Bool.and_eq_true, decide_eq_true_eq] at h
  · rw [sameI_eq h.1.1.1, sameI_eq h.1.1.2, h.1.2, h.2]
  · rw [sameI_eq h.1.1.1, sameI_eq h.1.1.2, h.1.2, h.2]
  · rw [sameI_eq h.1.1, h.1.2, h.2]
  · rw [sameI_eq h.1, h.2]
  · rw [sameI_eq h]

theorem findQ_mem {q : Qn} {b : Bool} : ∀ {l : List (Qn × Bool)}, findQ q l = some b → (q, b) ∈ l
  | (q', b') :: l, h => by
    simp only [findQ] at h
    cases e : sameQ q q' <;> rw [e] at h
    · exact List.mem_cons_of_mem _ (findQ_mem h)
    · simp only [cond_true, Option.some.injEq] at h
      rw [sameQ_eq e, h]; exact List.mem_cons_self

theorem findD_mem {d : D} {x : Int} : ∀ {l : List (D × Int)}, findD d l = some x → (d, x) ∈ l
  | (d', x') :: l, h => by
    simp only [findD] at h
    cases e : sameD d d' <;> rw [e] at h
    · exact List.mem_cons_of_mem _ (findD_mem h)
    · simp only [cond_true, Option.some.injEq] at h
      rw [sameD_eq e, h]; exact List.mem_cons_self

def slim : Tr Unit → List (Qn × Bool) → List (D × Int) → Tr Unit
  | .ret a, _, _ => .ret a
  | .fail, _, _ => .fail
  | .new m d t, kq, kd => .new m d (slim t kq (keep (d, ((nameB + (midB + stepB * m) : Nat) : Int)) kd))
  | .is d x t, kq, kd => match findD d kd with
    | some y => bif sameI x y then slim t kq kd else .fail
    | none => .is d x (slim t kq (keep (d, x) kd))
  | .fork q a b, kq, kd => match findQ q kq with
    | some true => slim a kq kd
    | some false => slim b kq kd
    | none => .fork q (slim a (keep (q, true) kq) kd) (slim b (keep (q, false) kq) kd)

theorem mem_keep {α : Type} {a x : α} {l : List α} (h : x ∈ keep a l) : x = a ∨ x ∈ l := by
  rcases List.mem_cons.1 h with h | h
  · exact .inl h
  · exact .inr (List.mem_of_mem_take h)

theorem slim_run (ρ : Nat → Int) : ∀ (t : Tr Unit) (kq : List (Qn × Bool)) (kd : List (D × Int)), (∀ p ∈ kq, evQ ρ p.1 = p.2) → (∀ p ∈ kd, evD ρ p.1 = some (vi ρ p.2)) → (slim t kq kd).run ρ = some () → t.run ρ = some ()
  | .ret a, kq, kd, _, _, h => h
  | .fail, kq, kd, _, _, h => h
  | .new m d t, kq, kd, hq, hd, h => by
    simp only [slim, Tr.run] at h ⊢
    cases e : evD ρ d with
    | none => rw [e] at h; cases h
    | some r =>
      rw [e] at h
      simp only at h ⊢
      by_cases hr : ρ m = r
      · rw [if_pos hr] at h ⊢
        refine slim_run ρ t _ _ hq (fun p hp => ?_) h
        rcases mem_keep hp with rfl | hp
        · rw [e, vi_name, hr]
        · exact hd p hp
      · rw [if_neg hr] at h; cases h
  | .is d x t, kq, kd, hq, hd, h => by
    simp only [slim] at h
    simp only [Tr.run]
    split at h
    · rename_i y hy
      have h1 := hd _ (findD_mem hy)
      simp only at h1
      rw [h1]
      cases e : sameI x y <;> rw [e] at h
      · simp [Tr.run] at h
      · rw [sameI_eq e]
        simp only [cond_true, if_true] at h ⊢
        exact slim_run ρ t kq kd hq hd h
    · simp only [Tr.run] at h
      cases e : evD ρ d with
      | none => rw [e] at h; cases h
      | some r =>
        rw [e] at h
        simp only at h ⊢
        by_cases hr : vi ρ x = r
        · rw [if_pos hr] at h ⊢
          refine slim_run ρ t _ _ hq (fun p hp => ?_) h
          rcases mem_keep hp with rfl | hp
          · rw [e, hr]
          · exact hd p hp
        · rw [if_neg hr] at h; cases h
  | .fork q a b, kq, kd, hq, hd, h => by
    simp only [slim] at h
    simp only [Tr.run]
    split at h
    · rename_i hb
      rw [hq _ (findQ_mem hb)]
      exact slim_run ρ a kq kd hq hd h
    · rename_i hb
      rw [hq _ (findQ_mem hb)]
      exact slim_run ρ b kq kd hq hd h
    · simp only [Tr.run] at h
      cases e : evQ ρ q <;> rw [e] at h <;> simp only [cond_true, cond_false] at h ⊢
      · refine slim_run ρ b _ _ (fun p hp => ?_) hd h
        rcases mem_keep hp with rfl | hp
        · exact e
        · exact hq p hp
      · refine slim_run ρ a _ _ (fun p hp => ?_) hd h
        rcases mem_keep hp with rfl | hp
        · exact e
        · exact hq p hp
end

/-! ### Names and values -/

theorem vi_conc {ρ : Nat → Int} {n : Int} (h : conc n = true) : vi ρ n = n := by
  cases n with
  | ofNat m => simp only [conc] at h; simp only [vi, h, cond_true]
  | negSucc m => rfl

mutual
theorem val_clean (ρ : Nat → Int) : ∀ v : V, clean v = true → val ρ v = v
  | .b _, _ | .s _, _ | .np, _ | .p _ _, _ | .ns, _ | .sl _ _ _ _ _, _ | .se _ _ _, _ | .ze _, _ | .nm, _ | .m _, _ | .nf, _ | .ni, _ => by simp [val]
  | .i k n, h => by simp only [clean] at h; simp only [val, vi_conc h]
  | .f fn caps, h => by
    simp only [clean, Bool.and_eq_true] at h
    simp only [val, h.1, cond_true, vals_clean ρ caps h.2]
  | .ic t v, h => by simp only [clean] at h; simp only [val, val_clean ρ v h]
  | .a l, h => by simp only [clean] at h; simp only [val, vals_clean ρ l h]
  | .t l, h => by simp only [clean] at h; simp only [val, vals_clean ρ l h]
theorem vals_clean (ρ : Nat → Int) : ∀ l : List V, cleans l = true → vals ρ l = l
  | [], _ => by simp [vals]
  | v :: l, h => by
    simp only [cleans, Bool.and_eq_true] at h
    simp only [vals, val_clean ρ v h.1, vals_clean ρ l h.2]
end

theorem vals_map (ρ : Nat → Int) : ∀ l : List V, vals ρ l = l.map (val ρ)
  | [] => by simp [vals]
  | v :: l => by simp [vals, vals_map ρ l]

/-! ### Maps -/
namespace T
variable {α β : Type}
def mp (f : α → β) : T α → T β
  | .l => .l
  | .n a v b => .n (mp f a) (v.map f) (mp f b)

theorem get_mp (f : α → β) (t : T α) : ∀ i, (t.mp f).get i = (t.get i).map f := by
  induction t with
  | l => intro i; rfl
  | n a v b iha ihb =>
    intro i
    cases i with
    | zero => rfl
    | succ i =>
      simp only [mp, get]
      cases Nat.beq (i % 2) 0 with
      | true => simp only [cond_true, iha]
      | false => simp only [cond_false, ihb]

theorem single_mp (f : α → β) : ∀ (d i : Nat) (v : Option α), (single d i v).mp f = single d i (v.map f)
  | 0, i, v => rfl
  | d + 1, 0, v => rfl
  | d + 1, i + 1, v => by
    simp only [single, seq_eq]
    cases Nat.beq (i % 2) 0 with
    | true => simp only [cond_true, mp, single_mp f d, Option.map_none]
    | false => simp only [cond_false, mp, single_mp f d, Option.map_none]

theorem put_mp (f : α → β) (t : T α) : ∀ (i : Nat) (v : Option α), (t.put i v).mp f = (t.mp f).put i (v.map f) := by
  induction t with
  | l => intro i v; simp only [put, mp, single_mp]
  | n a x b iha ihb =>
    intro i v
    cases i with
    | zero => simp only [put, mp]
    | succ i =>
      simp only [put, mp, seq_eq]
      cases Nat.beq (i % 2) 0 with
      | true => simp only [cond_true, mp, iha]
      | false => simp only [cond_false, mp, ihb]
end T

def valE (ρ : Nat → Int) (e : Env) : Env := e.mp (val ρ)

def valM (ρ : Nat → Int) : List (V × V × Nat) → List (V × V × Nat)
  | [] => []
  | (k, v, c) :: l => (val ρ k, val ρ v, c) :: valM ρ l

def valB (ρ : Nat → Int) : B → B
  | .c l ty own => .c (vals ρ l) ty own
  | .mp es c => .mp (valM ρ es) c
  | .it s pos => .it s pos

def valH (ρ : Nat → Int) (h : H) : H := ⟨h.next, h.mem.mp (valB ρ)⟩

theorem gv_val (ρ : Nat → Int) (e : Env) (t : Nat) : gv (valE ρ e) t = val ρ (gv e t) := by
  simp only [gv, valE, T.get_mp]
  cases e.get t with
  | none => simp [undefV, val, vals]
  | some v => rfl

end Go.Am
