/- Texts trimmed: a set of bytes, what of it stands ahead, behind. -/
import Derived.Test.YtbkhielalbbopaaGreatDoorYo6
import Derived.Test.YtbkhielalbbopaaGreatDoorUm0
import Derived.Test.YtbkhielalbbopaaGreatDoorWs
import Derived.Test.YtbkhielalbbopaaGreatDoorXs1
import Derived.Test.YtbkhielalbbopaaGreatDoorM5
set_option linter.unusedSimpArgs false
set_option linter.unusedVariables false
set_option linter.unusedSectionVars false
set_option linter.unnecessarySimpa false
set_option maxRecDepth 100000
namespace Go.Proofs.YtbkhielalbbopaaGreatDoor.Wb
open Go Go.Am Go.Am.Xm

theorem tt158 : ∃ i, (mkX Tryz.prog).tt.get 158 = some i ∧ i.zero = List.replicate 256 (.b false) := by
  have h : ((mkX Tryz.prog).tt.get 158).map (·.zero) = some (List.replicate 256 (.b false)) := by rw [infW_eq]; kernel_rfl
  cases e : (mkX Tryz.prog).tt.get 158 with
  | none => rw [e] at h; cases h
  | some i =>
    rw [e] at h
    exact ⟨i, rfl, Option.some.inj h⟩

/-- A set of bytes, as the program keeps it. -/
def asc (cs : Bs) : List V := (List.range 256).map fun n => V.b (cs.any fun c => c.toNat == n)
theorem asc_len (cs : Bs) : (asc cs).length = 256 := by simp [asc]
theorem asc_get (cs : Bs) {n : Nat} (h : n < 256) : (asc cs)[n]? = some (.b (cs.any fun c => c.toNat == n)) := by
  simp [asc, h]
theorem asc_nil : asc [] = List.replicate 256 (.b false) := by
  unfold asc
  simp only [List.any_nil]
  rw [List.map_const']
  simp
theorem asc_set (cs : Bs) (c : UInt8) : (asc cs).set c.toNat (.b true) = asc (cs ++ [c]) := by
  apply List.ext_getElem?
  intro n
  have hc := UInt8.toNat_lt c
  rw [List.getElem?_set, asc_len]
  by_cases hn : n < 256
  · rw [asc_get _ hn, asc_get _ hn]
    by_cases e : c.toNat = n
    · rw [if_pos e, if_pos (show c.toNat < 256 by omega)]
      simp [List.any_append, e]
    · rw [if_neg e]
      simp [List.any_append, e]
  · rw [List.getElem?_eq_none (l := asc (cs ++ [c])) (by rw [asc_len]; omega), List.getElem?_eq_none (l := asc cs) (by rw [asc_len]; omega)]
    rw [if_neg (show ¬ c.toNat = n by omega)]
theorem asc_one (cs : Bs) : (asc cs).all oneV = true := by
  simp [asc, oneV]

theorem msl_ok {n : Nat} {cs : Bs} (hl : cs.length < 50000) (ha : ∀ c ∈ cs, c.toNat < 128) {hS : H} {K : V → H → Prop} {r : Nat} {ty : TypeId} (hr : hS.next ≤ r)
    (k : ∀ h', But hS h' none → K (.t [.a (asc cs), .b true]) h') :
    ∀ (m i : Nat) (h : H), cs.length - i < m → i ≤ cs.length → h.mem.get r = some (.c (asc (cs.take i)) ty true) → But hS h none →
      F114_11 pw (mkX Tryz.prog) (Ok Tryz.prog n) (fun v h => Bd h → K v h) m (.s cs) (.p r 0) (.i .i64 i) h := by
  intro m
  induction m with
  | zero => intro i h hm; omega
  | succ m ih =>
    intro i h hm hi hg f
    show pw.lg _ _ _ _
    rw [lg_s tt9 rfl, lt_i]
    by_cases hlt : i < cs.length
    · rw [decide_eq_true (show (i : Int) < cs.length by omega), cd_t]
      have hsp : cs[i]? = some (cs[i]'hlt) := List.getElem?_eq_getElem hlt
      have h128 := ha _ (List.getElem_mem hlt)
      unfold F114_15
      rw [ix_s tt9 rfl hsp, ge_i, decide_eq_false (show ¬ (128 : Int) ≤ ((cs[i]'hlt).toNat : Nat) by omega), cd_f]
      unfold F114_30
      rw [ir_p (by omega)]
      refine s1_a hg (by rw [asc_len]; simp; omega) rfl fun h1 hg1 f1 => ?_
      unfold F114_19
      rw [ad_64 (by omega), show (i : Int) + 1 = ((i + 1 : Nat) : Int) by omega]
      refine ih (i + 1) h1 (by omega) (by omega) ?_ (f.over f1 (.inr fun z e => by cases e; exact hr))
      rw [hg1]
      simp only [Nat.zero_add, Nat.mul_one, Int.toNat_natCast]
      rw [asc_set, List.take_add_one, hsp]
      rfl
    · rw [decide_eq_false (show ¬ (i : Int) < cs.length by omega), cd_f]
      rw [List.take_of_length_le (by omega)] at hg
      unfold F114_4
      rw [ln_w hg (asc_len cs)]
      refine sn_w hg (cs := asc cs) rfl (asc_len cs) (asc_len cs) (asc_one cs) fun h1 hg1 f1 => ?_
      rw [ln_w hg1 (asc_len cs)]
      exact fun _ => k h1 (f.over f1 (.inr fun z e => by cases e; exact hr))

theorem mks_ok {n : Nat} (hn : 1 ≤ n) {cs : Bs} (hl : cs.length < 50000) (ha : ∀ c ∈ cs, c.toNat < 128) {h : H} {K : V → H → Prop}
    (k : ∀ h', But h h' none → K (.t [.a (asc cs), .b true]) h') : Ok Tryz.prog n 114 [.s cs] h K := by
  obtain ⟨n, rfl⟩ := Nat.exists_eq_add_of_le' hn
  refine Ok.bd (K114 fun hbd => ?_)
  unfold F114
  obtain ⟨i, ht, hz⟩ := tt158
  refine al_a ht fun r h1 hg f h2 h3 => ?_
  rw [hz, ← asc_nil] at hg
  exact msl_ok hl ha h2 k 100000 0 h1 (by omega) (by omega) hg f

/-- Is a byte of the set? -/
theorem con_ok {n : Nat} (hn : 1 ≤ n) {cs : Bs} {c : UInt8} {r : Nat} {ty : TypeId} {h : H} {K : V → H → Prop} (hg : h.mem.get r = some (.c (asc cs) ty true))
    (k : K (.b (cs.any fun x => x.toNat == c.toNat)) h) : Ok Tryz.prog n 140 [.p r 0, .i .u8 c.toNat] h K := by
  obtain ⟨n, rfl⟩ := Nat.exists_eq_add_of_le' hn
  refine Ok.bd (K140 fun hbd => ?_)
  unfold F140
  have hc := UInt8.toNat_lt c
  rw [nl_p, ir_p (by omega), l1_a hg (x := .b (cs.any fun x => x.toNat == c.toNat)) (by
    simp only [Nat.zero_add, Nat.mul_one, Int.toNat_natCast]
    exact asc_get cs (by omega))]
  exact fun _ => k

def inS (cs : Bs) (c : UInt8) : Bool := cs.any fun x => x.toNat == c.toNat
/-- What stands behind the bytes of a set. -/
def trimS (cs : Bs) : Bs → Bs
  | [] => []
  | a :: l => if inS cs a = true then trimS cs l else a :: l

theorem tral_ok {n : Nat} (hn : 1 ≤ n) {cs : Bs} {r : Nat} {ty : TypeId} {h : H} {K : V → H → Prop} (hg : h.mem.get r = some (.c (asc cs) ty true)) :
    ∀ (m : Nat) (l : Bs), l.length < m → l.length < 1000000 → K (.s (trimS cs l)) h → F115_8 pw (mkX Tryz.prog) (Ok Tryz.prog n) (fun v h => Bd h → K v h) m (.s l) (.p r 0) h := by
  intro m
  induction m with
  | zero => intro l hm; omega
  | succ m ih =>
    intro l hm hl k
    show pw.lg _ _ _ _
    rw [lg_s tt9 rfl, gt_i]
    match l, k with
    | [], k =>
      rw [decide_eq_false (show ¬ (0 : Int) < (([] : Bs).length : Nat) by simp), cd_f]
      exact fun _ => k
    | a :: l, k =>
      rw [decide_eq_true (show (0 : Int) < ((a :: l).length : Nat) by simp only [List.length_cons]; omega), cd_t]
      unfold F115_11
      rw [show pw.ix (mkX Tryz.prog) 9 (.s (a :: l)) (.i .i64 0) = fun κ => κ (.i .u8 a.toNat) from funext fun κ => ix_s tt9 rfl (n := 0) rfl]
      dsimp only
      rw [cf_k]
      refine con_ok hn hg ?_
      have e : (cs.any fun x => x.toNat == a.toNat) = inS cs a := rfl
      rw [e, nt_b]
      simp only [trimS] at k
      cases hi : inS cs a with
      | true =>
        rw [hi, if_pos rfl] at k
        simp only [Bool.not_true, cd_f, F115_14]
        rw [show pw.sc (mkX Tryz.prog) 9 (.s (a :: l)) (some (.i .i64 1)) none none = fun κ => κ (.s l) from funext fun κ => sc_s1 tt9 rfl (n := 1) (by simp)]
        exact ih l (by simp at hm; omega) (by simp at hl; omega) k
      | false =>
        rw [hi, if_neg (by decide)] at k
        simp only [Bool.not_false, cd_t, F115_4]
        exact fun _ => k

theorem trimS_id {cs : Bs} : ∀ {l : Bs}, (∀ c ∈ l, inS cs c = false) → trimS cs l = l
  | [], _ => rfl
  | a :: l, h => by rw [trimS, if_neg (by rw [h a (List.mem_cons_self ..)]; decide)]
theorem trimS_nil {cs : Bs} : ∀ {l : Bs}, (∀ c ∈ l, inS cs c = true) → trimS cs l = []
  | [], _ => rfl
  | a :: l, h => by rw [trimS, if_pos (h a (List.mem_cons_self ..)), trimS_nil fun c hc => h c (List.mem_cons_of_mem _ hc)]

/-- From behind: nothing is of the set, or all is. -/
theorem trar_ok {n : Nat} (hn : 1 ≤ n) {cs : Bs} {r : Nat} {ty : TypeId} {h : H} {K : V → H → Prop} (hg : h.mem.get r = some (.c (asc cs) ty true)) :
    ∀ (m : Nat) (l : Bs), l.length < m → l.length < 1000000 → (((∀ c ∈ l, inS cs c = false) ∧ K (.s l) h) ∨ ((∀ c ∈ l, inS cs c = true) ∧ K (.s []) h)) → F128_8 pw (mkX Tryz.prog) (Ok Tryz.prog n) (fun v h => Bd h → K v h) m (.s l) (.p r 0) h := by
  intro m
  induction m with
  | zero => intro l hm; omega
  | succ m ih =>
    intro l hm hl k
    rw [S128_8, lg_s tt9 rfl, gt_i]
    by_cases h0 : l = []
    · subst h0
      rw [decide_eq_false (show ¬ (0 : Int) < (([] : Bs).length : Nat) by simp), cd_f]
      unfold F128_4
      rcases k with ⟨_, k⟩ | ⟨_, k⟩ <;> exact fun _ => k
    · have hp : 0 < l.length := List.length_pos_iff.2 h0
      rw [decide_eq_true (show (0 : Int) < (l.length : Nat) by omega), cd_t]
      unfold F128_11
      have hlt : l.length - 1 < l.length := by omega
      have hsp : l[l.length - 1]? = some (l[l.length - 1]'hlt) := List.getElem?_eq_getElem hlt
      rw [lg_s tt9 rfl, sb_64 (by omega), show ((l.length : Nat) : Int) - 1 = ((l.length - 1 : Nat) : Int) by omega, ix_s tt9 rfl hsp, cf_k]
      refine con_ok hn hg ?_
      have e : (cs.any fun x => x.toNat == (l[l.length - 1]'hlt).toNat) = inS cs (l[l.length - 1]'hlt) := rfl
      rw [e, nt_b]
      rcases k with ⟨hall, k⟩ | ⟨hall, k⟩
      · rw [hall _ (List.getElem_mem hlt), Bool.not_false, cd_t]
        unfold F128_4
        exact fun _ => k
      · rw [hall _ (List.getElem_mem hlt), Bool.not_true, cd_f]
        unfold F128_14
        rw [lg_s tt9 rfl, sb_64 (by omega), show ((l.length : Nat) : Int) - 1 = ((l.length - 1 : Nat) : Int) by omega, sc_s0 tt9 rfl (by omega)]
        exact ih _ (by rw [List.length_take]; omega) (by rw [List.length_take]; omega) (.inr ⟨fun c hc => hall c (List.mem_of_mem_take hc), k⟩)

/-- Trim: nothing of the set, or all. -/
theorem trimB_ok {n : Nat} (hn : 3 ≤ n) {cs l : Bs} (h2 : 2 ≤ cs.length) (hc : cs.length < 50000) (ha : ∀ c ∈ cs, c.toNat < 128) (hl : l.length < 50000) {h : H} {K : V → H → Prop}
    (k : ((∀ c ∈ l, inS cs c = false) ∧ ∀ h', But h h' none → K (.s l) h') ∨ ((∀ c ∈ l, inS cs c = true) ∧ ∀ h', But h h' none → K (.s []) h')) : Ok Tryz.prog n 99 [.s l, .s cs] h K := by
  obtain ⟨n, rfl⟩ := Nat.exists_eq_add_of_le' hn
  refine Ok.bd (K99 fun hbd => ?_)
  unfold F99
  rw [eq_s]
  by_cases h0 : l = []
  · subst h0
    simp only [beq_self_eq_true, g0_t, pk_t, cd_t]
    rcases k with ⟨_, k⟩ | ⟨_, k⟩ <;> exact fun _ => k h (But.refl _ _)
  · rw [show (l == []) = false by simpa using h0]
    have h1 : (cs == []) = false := by
      cases cs with
      | nil => simp at h2
      | cons a b => rfl
    simp only [g0_f, eq_s, h1, pk_f, cd_f]
    unfold F99_4
    rw [lg_s tt9 rfl, eq_i, decide_eq_false (show ¬ ((cs.length : Nat) : Int) = 1 by omega)]
    simp only [g1_f, pk_f, cd_f]
    unfold F99_7
    simp only [cf_k]
    refine mks_ok (by omega) hc ha fun h1 f1 => ?_
    simp only [ex_t, List.getElem?_cons_zero, List.getElem?_cons_succ, oP_some]
    obtain ⟨i, ht, hz⟩ := tt158
    refine al_a ht fun r h2 hg f2 h3 h4 => ?_
    rw [hz] at hg
    refine sn_w hg (cs := asc cs) rfl (asc_len cs) (by simp) (asc_one cs) fun h3' hg3 f3 => ?_
    simp only [cd_t]
    have fA : But h h3' none := (f1.trans f2).over f3 (.inr fun z e => by cases e; exact Nat.le_trans f1.1 h3)
    refine Ok.bd (K128 fun hbd => ?_)
    unfold F128
    refine trar_ok (by omega) hg3 100000 l (by omega) (by omega) ?_
    rcases k with ⟨hall, k⟩ | ⟨hall, k⟩
    · refine .inl ⟨hall, ?_⟩
      refine Ok.bd (K115 fun hbd => ?_)
      unfold F115
      refine tral_ok (by omega) hg3 100000 l (by omega) (by omega) ?_
      rw [trimS_id hall]
      exact fun _ => k h3' fA
    · refine .inr ⟨hall, ?_⟩
      refine Ok.bd (K115 fun hbd => ?_)
      unfold F115
      refine tral_ok (by omega) hg3 100000 [] (by decide) (by decide) ?_
      exact fun _ => k h3' fA
end Go.Proofs.YtbkhielalbbopaaGreatDoor.Wb
