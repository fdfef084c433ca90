/- What a text's signs come to, and that what is written is read back: plain, no program in sight. -/
import Derived.Test.YtmcknijenobdaaaGreatDoorWs
set_option linter.unusedSimpArgs false
set_option linter.unusedVariables false
set_option linter.unusedSectionVars false
set_option linter.unnecessarySimpa false
namespace Go.Am.Xm
abbrev Bs := List UInt8

/-- A text cut at a byte's first place. -/
def cut1 (c : UInt8) : Bs → Option (Bs × Bs)
  | [] => none
  | a :: l => if a = c then some ([], l) else match cut1 c l with
    | some p => some (a :: p.1, p.2)
    | none => none
theorem cut1_some {c : UInt8} : ∀ {l h t : Bs}, cut1 c l = some (h, t) → l = h ++ c :: t ∧ c ∉ h
  | [], h, t, e => by cases e
  | a :: l, h, t, e => by
    simp only [cut1] at e
    by_cases ha : a = c
    · rw [if_pos ha, Option.some.injEq, Prod.mk.injEq] at e
      rw [← e.1, ← e.2, ha]; exact ⟨rfl, List.not_mem_nil⟩
    · rw [if_neg ha] at e
      split at e
      · rename_i p hp
        rw [Option.some.injEq, Prod.mk.injEq] at e
        obtain ⟨h1, h2⟩ := cut1_some (h := p.1) (t := p.2) hp
        rw [← e.1, ← e.2, h1]
        refine ⟨rfl, fun hm => ?_⟩
        rcases List.mem_cons.1 hm with h3 | h3
        · exact ha h3.symm
        · exact h2 h3
      · cases e
theorem cut1_none {c : UInt8} : ∀ {l : Bs}, cut1 c l = none → c ∉ l
  | [], _ => List.not_mem_nil
  | a :: l, e => by
    simp only [cut1] at e
    by_cases ha : a = c
    · rw [if_pos ha] at e; cases e
    · rw [if_neg ha] at e
      split at e
      · cases e
      · rename_i hp
        intro hm
        rcases List.mem_cons.1 hm with h3 | h3
        · exact ha h3.symm
        · exact cut1_none hp h3
theorem cut1_mk {c : UInt8} : ∀ {h t : Bs}, c ∉ h → cut1 c (h ++ c :: t) = some (h, t)
  | [], t, _ => by simp [cut1]
  | a :: h, t, hc => by
    have ha : a ≠ c := fun e => hc (e ▸ List.mem_cons_self ..)
    have := cut1_mk (t := t) fun hm => hc (List.mem_cons_of_mem _ hm)
    simp only [List.cons_append, cut1, if_neg ha, this]
theorem cut1_len {c : UInt8} {l h t : Bs} (e : cut1 c l = some (h, t)) : h.length + t.length + 1 = l.length := by
  rw [(cut1_some e).1, List.length_append, List.length_cons]; omega

def dig (b : UInt8) : Nat := if 48 ≤ b.toNat ∧ b.toNat ≤ 57 then b.toNat - 48 else if 97 ≤ b.toNat ∧ b.toNat ≤ 102 then b.toNat - 87 else if 65 ≤ b.toNat ∧ b.toNat ≤ 70 then b.toNat - 55 else 99
def numV (base : Nat) : Nat → Bs → Option Nat
  | n, [] => some n
  | n, b :: l => if dig b < base then numV base (n * base + dig b) l else none
def mayN (n : Nat) : Bool := (Nat.ble 32 n && Nat.ble n 1114111 && (Nat.blt n 55296 || Nat.blt 57343 n)) || Nat.beq n 9 || Nat.beq n 10 || Nat.beq n 13
def numB (d : Bs) (base : Nat) : Option Bs := if d.length < 1 ∨ 8 < d.length then none else match numV base 0 d with
  | none => none
  | some n => if mayN n = true then some (Utf8.encode n).data.toList else none
def num (s : Bs) : Option Bs := match s with
  | [] => none
  | a :: l => if a = 120 then numB l 16 else numB (a :: l) 10
/-- What stands for a name between & and ;. -/
def sgn (s : Bs) : Option Bs :=
  if s = [97, 109, 112] then some [38] else if s = [108, 116] then some [60] else if s = [103, 116] then some [62] else if s = [113, 117, 111, 116] then some [34] else if s = [97, 112, 111, 115] then some [39] else match s with
  | [] => none
  | a :: l => if a = 35 then num l else none

theorem numB_len {d : Bs} {b : Nat} {r : Bs} (h : numB d b = some r) : 1 ≤ d.length ∧ d.length ≤ 8 := by
  unfold numB at h
  split at h
  · cases h
  · omega
theorem num_len {s r : Bs} (h : num s = some r) : s.length ≤ 9 := by
  unfold num at h
  split at h
  · cases h
  · rename_i a l
    by_cases ha : a = 120
    · rw [if_pos ha] at h
      have := numB_len h
      rw [List.length_cons]; omega
    · rw [if_neg ha] at h
      have := numB_len h
      omega
theorem sgn_len {s r : Bs} (h : sgn s = some r) : s.length ≤ 10 := by
  unfold sgn at h
  split at h
  · rename_i e; subst e; decide
  split at h
  · rename_i e; subst e; decide
  split at h
  · rename_i e; subst e; decide
  split at h
  · rename_i e; subst e; decide
  split at h
  · rename_i e; subst e; decide
  split at h
  · cases h
  · rename_i a l
    split at h
    · have := num_len h
      rw [List.length_cons]; omega
    · cases h

/-- A text's signs, read. -/
def unE (l : Bs) : Option Bs := match l with
  | [] => some []
  | a :: l => if a = 38 then match e : cut1 59 l with
      | none => none
      | some (nm, r) => match sgn nm with
        | none => none
        | some c => have := cut1_len e; (unE r).map (c ++ ·)
    else (unE l).map (a :: ·)
termination_by l.length
decreasing_by all_goals (simp only [List.length_cons]; omega)

theorem unE_nil : unE [] = some [] := by rw [unE]
theorem unE_cons {a : UInt8} {l : Bs} (h : a ≠ 38) : unE (a :: l) = (unE l).map (a :: ·) := by rw [unE, if_neg h]
theorem unE_amp_none {l : Bs} (e : cut1 59 l = none) : unE (38 :: l) = none := by
  rw [unE, if_pos rfl]
  split
  · rfl
  · rename_i h; rw [e] at h; cases h
theorem unE_amp {l nm r : Bs} (e : cut1 59 l = some (nm, r)) : unE (38 :: l) = match sgn nm with
    | none => none
    | some c => (unE r).map (c ++ ·) := by
  rw [unE, if_pos rfl]
  split
  · rename_i h; rw [e] at h; cases h
  · rename_i nm' r' h
    rw [e] at h
    cases h
    rfl
theorem unE_app : ∀ {h t : Bs}, 38 ∉ h → unE (h ++ t) = (unE t).map (h ++ ·)
  | [], t, _ => by
    simp only [List.nil_append]
    cases unE t <;> rfl
  | a :: h, t, hc => by
    have ha : a ≠ 38 := fun e => hc (e ▸ List.mem_cons_self ..)
    rw [List.cons_append, unE_cons ha, unE_app fun hm => hc (List.mem_cons_of_mem _ hm), Option.map_map]
    rfl
theorem unE_plain {l : Bs} (h : 38 ∉ l) : unE l = some l := by
  have := unE_app (t := []) h
  rw [List.append_nil, unE_nil] at this
  rw [this]
  simp

def escB (a : UInt8) : Bs := if a = 38 then [38, 97, 109, 112, 59] else if a = 60 then [38, 108, 116, 59] else if a = 62 then [38, 103, 116, 59] else if a = 34 then [38, 113, 117, 111, 116, 59] else if a = 39 then [38, 97, 112, 111, 115, 59] else [a]
/-- A text's signs, written. -/
def esc : Bs → Bs
  | [] => []
  | a :: l => escB a ++ esc l
theorem escB_len (a : UInt8) : (escB a).length ≤ 6 := by
  unfold escB
  repeat' split
  all_goals simp
theorem esc_len : ∀ l : Bs, (esc l).length ≤ 6 * l.length
  | [] => Nat.le_refl _
  | a :: l => by
    have h1 := escB_len a
    have h2 := esc_len l
    simp only [esc, List.length_append, List.length_cons]; omega
theorem esc_app : ∀ a b : Bs, esc (a ++ b) = esc a ++ esc b
  | [], b => rfl
  | x :: a, b => by simp only [List.cons_append, esc, esc_app a b, List.append_assoc]

theorem unE_name {nm t c : Bs} (hn : (59 : UInt8) ∉ nm) (hs : sgn nm = some c) : unE (38 :: (nm ++ 59 :: t)) = (unE t).map (c ++ ·) := by
  rw [unE_amp (cut1_mk hn), hs]
theorem unE_esc : ∀ l : Bs, unE (esc l) = some l
  | [] => unE_nil
  | a :: l => by
    have ih := unE_esc l
    have key : ∀ {nm : Bs} {c : UInt8}, escB a = 38 :: (nm ++ [59]) → (59 : UInt8) ∉ nm → sgn nm = some [c] → c = a → unE (esc (a :: l)) = some (a :: l) := by
      intro nm c h1 h2 h3 h4
      show unE (escB a ++ esc l) = _
      rw [h1, List.cons_append, List.append_assoc, List.singleton_append, unE_name h2 h3, ih, h4]
      rfl
    by_cases h1 : a = 38
    · exact key (nm := [97, 109, 112]) (by subst h1; rfl) (by decide) (by rfl) h1.symm
    by_cases h2 : a = 60
    · exact key (nm := [108, 116]) (by subst h2; rfl) (by decide) (by rfl) h2.symm
    by_cases h3 : a = 62
    · exact key (nm := [103, 116]) (by subst h3; rfl) (by decide) (by rfl) h3.symm
    by_cases h4 : a = 34
    · exact key (nm := [113, 117, 111, 116]) (by subst h4; rfl) (by decide) (by rfl) h4.symm
    by_cases h5 : a = 39
    · exact key (nm := [97, 112, 111, 115]) (by subst h5; rfl) (by decide) (by rfl) h5.symm
    have e : escB a = [a] := by simp only [escB, h1, h2, h3, h4, h5, if_false]
    show unE (escB a ++ esc l) = _
    rw [e, List.singleton_append, unE_cons h1, ih]
    rfl
theorem indexByte_cut (c : UInt8) : ∀ l : Bs, Lib.indexByte l c = match cut1 c l with
    | some p => (p.1.length : Int)
    | none => -1
  | [] => rfl
  | a :: l => by
    have ih := indexByte_cut c l
    have hg := Lib.indexByte_ge l c
    simp only [Lib.indexByte, cut1]
    by_cases h : a = c
    · simp [h]
    · have hb : (a == c) = false := by simpa using h
      rw [if_neg h, hb, if_neg (by decide)]
      cases hc : cut1 c l with
      | none => rw [hc] at ih; simp [ih]
      | some p =>
        rw [hc] at ih
        simp only at ih
        have hn : (Lib.indexByte l c == -1) = false := by rw [ih]; simp
        rw [hn, if_neg (by decide), ih]
        simp
end Go.Am.Xm
