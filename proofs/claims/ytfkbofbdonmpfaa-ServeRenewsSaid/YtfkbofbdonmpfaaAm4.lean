/- The abstract machine: its maps, its forcing words, and how its values stand to the model's. -/
import Derived.Test.YtfkbofbdonmpfaaAm3
set_option linter.unusedSimpArgs false
set_option linter.unusedVariables false
set_option linter.unusedSectionVars false
set_option linter.unnecessarySimpa false
namespace Go.Am

@[simp] theorem T.seq_eq {α β : Type} (t : T α) (k : T α → β) : t.seq k = k t := by cases t <;> rfl
@[simp] theorem fN_eq {β : Type} (n : Nat) (k : Nat → β) : fN n k = k n := by cases n <;> rfl
@[simp] theorem fI_eq {β : Type} (n : Int) (k : Int → β) : fI n k = k n := by cases n <;> simp [fI]
@[simp] theorem fB_eq {β : Type} (x : Bool) (k : Bool → β) : fB x k = k x := by cases x <;> rfl
@[simp] theorem fV_eq {β : Type} (v : V) (k : V → β) : fV v k = k v := by cases v <;> simp [fV]
@[simp] theorem newB_eq {α : Type} (h : H) (b : B) (k : H → α) : newB h b k = k ⟨h.next + 1, h.mem.put h.next (some b)⟩ := by simp [newB]
@[simp] theorem ti_some {α : Type} {x : X} {t : TypeId} {i : TI} (k : TI → Option α) (h : x.tt.get t = some i) : ti x t k = k i := by simp [ti, h]

namespace T
variable {α : Type}

theorem half {i j : Nat} (h : i % 2 = j % 2) (k : i / 2 = j / 2) : i = j := by omega

theorem get_single : ∀ (d i : Nat) (v : Option α) (j : Nat), i < d → (single d i v).get j = if i = j then v else none
  | 0, i, v, j, h => absurd h (by omega)
  | d + 1, 0, v, j, _ => by cases j <;> simp [single, get]
  | d + 1, i + 1, v, j, h => by
    have hd : i / 2 < d := by omega
    cases hi : Nat.beq (i % 2) 0 with
    | true =>
      simp only [single, hi, cond_true, seq_eq]
      have h0 : i % 2 = 0 := by simpa using hi
      cases j with
      | zero => simp [get]
      | succ j =>
        simp only [get]
        cases hj : Nat.beq (j % 2) 0 with
        | true =>
          have h1 : j % 2 = 0 := by simpa using hj
          simp only [cond_true, get_single d (i / 2) v (j / 2) hd]
          by_cases e : i = j
          · subst e; simp
          · rw [if_neg (fun k => e (by omega)), if_neg (by omega)]
        | false =>
          have h1 : j % 2 ≠ 0 := Nat.ne_of_beq_eq_false hj
          simp only [cond_false, get]; rw [if_neg (by omega)]
    | false =>
      simp only [single, hi, cond_false, seq_eq]
      have h0 : i % 2 ≠ 0 := Nat.ne_of_beq_eq_false hi
      cases j with
      | zero => simp [get]
      | succ j =>
        simp only [get]
        cases hj : Nat.beq (j % 2) 0 with
        | true =>
          have h1 : j % 2 = 0 := by simpa using hj
          simp only [cond_true, get]; rw [if_neg (by omega)]
        | false =>
          have h1 : j % 2 ≠ 0 := Nat.ne_of_beq_eq_false hj
          simp only [cond_false, get_single d (i / 2) v (j / 2) hd]
          by_cases e : i = j
          · subst e; simp
          · rw [if_neg (fun k => e (by omega)), if_neg (by omega)]

theorem get_put (t : T α) : ∀ (i : Nat) (v : Option α) (j : Nat), (t.put i v).get j = if i = j then v else t.get j := by
  induction t with
  | l => intro i v j; rw [put, get_single _ _ _ _ (by omega)]; simp [get]
  | n a x b iha ihb =>
    intro i v j
    cases i with
    | zero => cases j <;> simp [put, get]
    | succ i =>
      cases hi : Nat.beq (i % 2) 0 with
      | true =>
        have h0 : i % 2 = 0 := by simpa using hi
        simp only [put, hi, cond_true, seq_eq]
        cases j with
        | zero => simp [get]
        | succ j =>
          simp only [get]
          cases hj : Nat.beq (j % 2) 0 with
          | true =>
            have h1 : j % 2 = 0 := by simpa using hj
            simp only [cond_true, iha]
            by_cases e : i = j
            · subst e; simp
            · rw [if_neg (fun k => e (by omega)), if_neg (by omega)]
          | false =>
            have h1 : j % 2 ≠ 0 := Nat.ne_of_beq_eq_false hj
            simp only [cond_false]; rw [if_neg (by omega)]
      | false =>
        have h0 : i % 2 ≠ 0 := Nat.ne_of_beq_eq_false hi
        simp only [put, hi, cond_false, seq_eq]
        cases j with
        | zero => simp [get]
        | succ j =>
          simp only [get]
          cases hj : Nat.beq (j % 2) 0 with
          | true =>
            have h1 : j % 2 = 0 := by simpa using hj
            simp only [cond_true]; rw [if_neg (by omega)]
          | false =>
            have h1 : j % 2 ≠ 0 := Nat.ne_of_beq_eq_false hj
            simp only [cond_false, ihb]
            by_cases e : i = j
            · subst e; simp
            · rw [if_neg (fun k => e (by omega)), if_neg (by omega)]
end T

/-! ## Where a block of the machine's lies in the model's memory. -/

structure J where
  c : Nat
  d : Nat
  e : Nat
  s : Option Nat := none

abbrev Inj := Nat → Option J

mutual
def ren (j : Inj) : V → Option Value
  | .b x => some (.bool x)
  | .i k n => some (.int k n)
  | .s l => some (.string ⟨⟨l⟩⟩)
  | .np => some (.pointer none)
  | .p r o => (j r).map fun q => .pointer (some ⟨q.c, q.d + o, none⟩)
  | .ns => some (.slice none 0 0)
  | .sl r o n cap el => (j r).map fun q => .slice (some ⟨q.c, q.d + o, none⟩) n (cap + if el then q.e else 0)
  | .se r o' o => (j r).map fun q => .slice (some ⟨q.c, q.d + (if q.e = 0 then o' else o), none⟩) 0 q.e
  | .ze r => (j r).map fun q => .slice (some ⟨q.c, q.d, q.s⟩) 0 0
  | .nm => some (.map none)
  | .m r => (j r).map fun q => .map (some q.c)
  | .nf => some .nilFunc
  | .f fn caps => (rens j caps).map fun cs => .func (.func fn) #[] ⟨cs⟩
  | .ni => some .nilIface
  | .ic t v => (ren j v).map fun v => .iface t v
  | .a l => (rens j l).map fun cs => .agg ⟨cs⟩
  | .t l => (rens j l).map fun cs => .tuple ⟨cs⟩
def rens (j : Inj) : List V → Option (List Value)
  | [] => some []
  | v :: l => match ren j v, rens j l with
    | some v', some l' => some (v' :: l')
    | _, _ => none
end

def Ext (j j' : Inj) : Prop := ∀ r q, j r = some q → j' r = some q

theorem Ext.refl (j : Inj) : Ext j j := fun _ _ h => h
theorem Ext.trans {a b c : Inj} (h : Ext a b) (k : Ext b c) : Ext a c := fun r q e => k r q (h r q e)

theorem map_ext {j j' : Inj} (h : Ext j j') {α : Type} {r : Nat} {f : J → α} {v : α} (e : (j r).map f = some v) : (j' r).map f = some v := by
  cases k : j r with
  | none => rw [k] at e; cases e
  | some q => rw [h r q k]; rw [k] at e; exact e

mutual
theorem ren_ext {j j' : Inj} (h : Ext j j') : ∀ (v : V) {v' : Value}, ren j v = some v' → ren j' v = some v'
  | .b _, _, e | .i _ _, _, e | .s _, _, e | .np, _, e | .ns, _, e | .nm, _, e | .nf, _, e | .ni, _, e => by simpa [ren] using e
  | .p r o, _, e | .sl r o _ _ _, _, e | .se r o _, _, e | .ze r, _, e | .m r, _, e => by simp only [ren] at e ⊢; exact map_ext h e
  | .f fn caps, v', e => by
    simp only [ren] at e ⊢
    cases k : rens j caps with
    | none => rw [k] at e; cases e
    | some l => rw [rens_ext h caps k]; rw [k] at e; exact e
  | .ic t v, v', e => by
    simp only [ren] at e ⊢
    cases k : ren j v with
    | none => rw [k] at e; cases e
    | some l => rw [ren_ext h v k]; rw [k] at e; exact e
  | .a l, v', e => by
    simp only [ren] at e ⊢
    cases k : rens j l with
    | none => rw [k] at e; cases e
    | some l' => rw [rens_ext h l k]; rw [k] at e; exact e
  | .t l, v', e => by
    simp only [ren] at e ⊢
    cases k : rens j l with
    | none => rw [k] at e; cases e
    | some l' => rw [rens_ext h l k]; rw [k] at e; exact e
theorem rens_ext {j j' : Inj} (h : Ext j j') : ∀ (l : List V) {l' : List Value}, rens j l = some l' → rens j' l = some l'
  | [], _, e => by simpa [rens] using e
  | v :: l, l', e => by
    simp only [rens] at e ⊢
    cases k1 : ren j v with
    | none => rw [k1] at e; cases e
    | some v1 =>
      cases k2 : rens j l with
      | none => rw [k1, k2] at e; cases e
      | some l1 => rw [ren_ext h v k1, rens_ext h l k2]; rw [k1, k2] at e; exact e
end

/-! ### Lists of values -/

theorem rens_cons {j : Inj} {v : V} {l : List V} {l' : List Value} (h : rens j (v :: l) = some l') : ∃ v' l1, l' = v' :: l1 ∧ ren j v = some v' ∧ rens j l = some l1 := by
  simp only [rens] at h
  cases k1 : ren j v with
  | none => rw [k1] at h; cases h
  | some v1 =>
    cases k2 : rens j l with
    | none => rw [k1, k2] at h; cases h
    | some l1 => rw [k1, k2] at h; cases h; exact ⟨_, _, rfl, rfl, rfl⟩

theorem rens_mk {j : Inj} {v : V} {l : List V} {v' : Value} {l' : List Value} (h : ren j v = some v') (k : rens j l = some l') : rens j (v :: l) = some (v' :: l') := by
  simp [rens, h, k]

theorem rens_length {j : Inj} : ∀ {l : List V} {l' : List Value}, rens j l = some l' → l'.length = l.length
  | [], l', h => by simp [rens] at h; simp [h]
  | v :: l, l', h => by obtain ⟨v', l1, rfl, _, k⟩ := rens_cons h; simp [rens_length k]

theorem rens_get {j : Inj} : ∀ {l : List V} {l' : List Value}, rens j l = some l' → ∀ {i : Nat} {v : V}, l[i]? = some v → ∃ v', l'[i]? = some v' ∧ ren j v = some v'
  | [], _, _, i, v, h => by simp at h
  | v0 :: l, l', h, i, v, hv => by
    obtain ⟨v', l1, rfl, k0, k⟩ := rens_cons h
    cases i with
    | zero => simp at hv; subst hv; exact ⟨v', by simp, k0⟩
    | succ i => obtain ⟨u, hu, ku⟩ := rens_get k (i := i) (v := v) (by simpa using hv); exact ⟨u, by simpa using hu, ku⟩

theorem rens_append {j : Inj} : ∀ {a b : List V} {a' b' : List Value}, rens j a = some a' → rens j b = some b' → rens j (a ++ b) = some (a' ++ b')
  | [], b, a', b', h, k => by simp [rens] at h; subst h; simpa using k
  | v :: a, b, a', b', h, k => by obtain ⟨v', l1, rfl, k0, k1⟩ := rens_cons h; simpa using rens_mk k0 (rens_append k1 k)

theorem rens_of_get {j : Inj} : ∀ {l : List V} {l' : List Value}, l'.length = l.length → (∀ (i : Nat) (v : V), l[i]? = some v → ∃ v', l'[i]? = some v' ∧ ren j v = some v') → rens j l = some l'
  | [], l', h, _ => by simp at h; subst h; simp [rens]
  | v :: l, [], h, _ => by simp at h
  | v :: l, v' :: l', h, k => by
    obtain ⟨u, hu, ku⟩ := k 0 v (by simp)
    simp at hu; subst hu
    exact rens_mk ku (rens_of_get (by simpa using h) fun i x hx => by simpa using k (i + 1) x (by simpa using hx))

theorem rens_drop {j : Inj} : ∀ (n : Nat) {l : List V} {l' : List Value}, rens j l = some l' → rens j (l.drop n) = some (l'.drop n)
  | 0, _, _, h => by simpa using h
  | n + 1, [], l', h => by simp [rens] at h; subst h; simp [rens]
  | n + 1, v :: l, l', h => by obtain ⟨v', l1, rfl, _, k⟩ := rens_cons h; simpa using rens_drop n k

theorem takeN_eq : ∀ {l : List V} {n : Nat} {r : List V}, takeN l n = some r → r = l.take n ∧ n ≤ l.length
  | l, 0, r, h => by simp [takeN] at h; simp [← h]
  | [], n + 1, r, h => by simp [takeN] at h
  | v :: l, n + 1, r, h => by
    simp only [takeN] at h
    cases k : takeN l n with
    | none => rw [k] at h; cases h
    | some r1 => rw [k] at h; cases h; obtain ⟨rfl, hn⟩ := takeN_eq k; simpa using hn

theorem sub_eq {l : List V} {o n : Nat} {r : List V} (h : sub l o n = some r) : r = (l.drop o).take n ∧ (n = 0 ∨ o + n ≤ l.length) ∧ r.length = n := by
  obtain ⟨h1, h2⟩ := takeN_eq h
  rw [List.length_drop] at h2
  refine ⟨h1, by omega, ?_⟩
  rw [h1, List.length_take, List.length_drop]; omega

theorem sub_get {l : List V} {o n : Nat} {r : List V} (h : sub l o n = some r) {i : Nat} (hi : i < n) : r[i]? = l[o + i]? := by
  obtain ⟨h1, _⟩ := sub_eq h
  rw [h1, List.getElem?_take, if_pos hi, List.getElem?_drop]

theorem over_len : ∀ {l vs r : List V}, over l vs = some r → r.length = l.length ∧ vs.length ≤ l.length
  | l, [], r, h => by simp [over] at h; simp [h]
  | [], _ :: _, r, h => by simp [over] at h
  | _ :: l, v :: vs, r, h => by
    simp only [over] at h
    cases k : over l vs with
    | none => rw [k] at h; cases h
    | some r1 => rw [k] at h; cases h; have := over_len k; simp; omega

theorem over_get : ∀ {l vs r : List V}, over l vs = some r → ∀ i, r[i]? = if i < vs.length then vs[i]? else l[i]?
  | l, [], r, h, i => by simp [over] at h; simp [h]
  | [], _ :: _, r, h, _ => by simp [over] at h
  | x :: l, v :: vs, r, h, i => by
    simp only [over] at h
    cases k : over l vs with
    | none => rw [k] at h; cases h
    | some r1 =>
      rw [k] at h; cases h
      cases i with
      | zero => simp
      | succ i => have := over_get k i; simpa using this

theorem overAt_len : ∀ {l : List V} {o : Nat} {vs r : List V}, overAt l o vs = some r → r.length = l.length ∧ o + vs.length ≤ l.length
  | l, 0, vs, r, h => by simp only [overAt] at h; simpa using over_len h
  | [], o + 1, [], r, h => by simp [overAt] at h
  | [], o + 1, _ :: _, r, h => by simp [overAt] at h
  | x :: l, o + 1, vs, r, h => by
    simp only [overAt] at h
    cases k : overAt l o vs with
    | none => rw [k] at h; cases h
    | some r1 => rw [k] at h; cases h; have := overAt_len k; simp; omega

theorem overAt_get : ∀ {l : List V} {o : Nat} {vs r : List V}, overAt l o vs = some r → ∀ i, r[i]? = if o ≤ i ∧ i < o + vs.length then vs[i - o]? else l[i]?
  | l, 0, vs, r, h, i => by simp only [overAt] at h; simpa using over_get h i
  | [], o + 1, [], r, h, _ => by simp [overAt] at h
  | [], o + 1, _ :: _, r, h, _ => by simp [overAt] at h
  | x :: l, o + 1, vs, r, h, i => by
    simp only [overAt] at h
    cases k : overAt l o vs with
    | none => rw [k] at h; cases h
    | some r1 =>
      rw [k] at h; cases h
      cases i with
      | zero => simp
      | succ i =>
        have := overAt_get k i
        simp only [List.getElem?_cons_succ, this]
        by_cases e : o ≤ i ∧ i < o + vs.length
        · rw [if_pos e, if_pos (by omega)]; congr 1; omega
        · rw [if_neg e, if_neg (by omega)]

end Go.Am
