/- Who is where: the walks of the table's own functions. -/
import Derived.Test.YthmnfjaogoennaaWn0
import Derived.Test.YthmnfjaogoennaaM3
set_option linter.unusedSimpArgs false
set_option linter.unusedVariables false
set_option linter.unusedSectionVars false
set_option linter.unnecessarySimpa false
set_option maxRecDepth 100000
namespace Go.Proofs.Ythmnfjaogoennaa.Wb
open Go.Am

noncomputable abbrev xx : X := mkX Try.prog

/-- An entry of the table. -/
structure Ent where
  a : Nat
  kn : Bool
  m : Nat
  at' : Int
  asks : Int
  w : V

def adr (a : Nat) : V := .a [.i .u8 10, .i .u8 0, .i .u8 0, .i .u8 (a : Int)]
def macL (m : Nat) : List V := [.i .u8 (m : Int), .i .u8 0, .i .u8 0, .i .u8 0, .i .u8 0, .i .u8 0]
def enc (e : Ent) : List V := [.i .u8 10, .i .u8 0, .i .u8 0, .i .u8 (e.a : Int), .b e.kn, .i .u8 (e.m : Int), .i .u8 0, .i .u8 0, .i .u8 0, .i .u8 0, .i .u8 0, .i .i64 e.at', .i .i64 e.asks, e.w]
theorem enc_len (e : Ent) : (enc e).length = 14 := rfl

/-- The table: its entries' block, its time, its entries. -/
def NT (h : H) (r : Nat) (c : Option Nat) (now : Int) (es : List Ent) : Prop := ∃ lv, h.mem.get r = some (.c [.i .i64 1000, .i .i64 now, lv] 62 true) ∧ VecE h lv 66 14 enc es ∧ vblk lv = c ∧ c ≠ some r

theorem NT.keep {h h' : H} {r : Nat} {c : Option Nat} {now : Int} {es : List Ent} (ht : NT h r c now es) (hd : Bd h) (hk : But h h' none) : NT h' r c now es := by
  obtain ⟨lv, h1, h2, h3⟩ := ht
  exact ⟨lv, hk.get (hd _ _ h1) (by simp) h1, h2.keep (h2.lt hd) hk (.inr rfl), h3⟩
theorem NT.lt {h : H} {r : Nat} {c : Option Nat} {now : Int} {es : List Ent} (ht : NT h r c now es) (hd : Bd h) : r < h.next ∧ ∀ q, c = some q → q < h.next := by
  obtain ⟨lv, h1, h2, rfl, h3⟩ := ht
  exact ⟨hd _ _ h1, h2.lt hd⟩

/-- Where the first entry of an address is, from 'k' on. -/
def fnd (a : Nat) : List Ent → Nat → Int
  | [], _ => -1
  | e :: es, k => if e.a = a then (k : Int) else fnd a es (k + 1)

theorem eqa_ok {a b c d a' b' c' d' : Int} {κ : V → Prop} : pw.eq xx 45 (.a [.i .u8 a, .i .u8 b, .i .u8 c, .i .u8 d]) (.a [.i .u8 a', .i .u8 b', .i .u8 c', .i .u8 d']) κ = κ (.b (decide (a = a') && (decide (b = b') && (decide (c = c') && (decide (d = d') && true))))) := by
  simp only [pw, bin, ti, tt45, eqOp, eqF, eqK, if_true, oP]

/-- The closure that 'find' hands over. -/
theorem cl46_ok {n : Nat} (hn : 1 ≤ n) {e : Ent} {q a : Nat} {h : H} {ty : TypeId} {w : Bool} {K : V → H → Prop} (hq : h.mem.get q = some (.c [.i .u8 10, .i .u8 0, .i .u8 0, .i .u8 (a : Int)] ty w))
    (hk : ∀ h', Bd h' → But h h' none → K (.b (decide (e.a = a))) h') : Ok Try.prog n 46 [.a (enc e), .p q 0] h K := by
  obtain ⟨n, rfl⟩ := Nat.exists_eq_add_of_le' hn
  refine Ok.bd (K46 fun hbd => ?_)
  have hql := hbd _ _ hq
  simp (disch := omega) only [F46]
  refine bx_a (cs := enc e) rfl fun b h1 hb1 hk1 _ _ => ?_
  rw [fa_p, Nat.add_zero, ln_a (sz := 4) hb1 (by simp [enc]), ln_w (sz := 4) (hk1.get hql (by simp) hq) rfl]
  simp only [enc, List.drop_zero, List.take_succ_cons, List.take_zero, eqa_ok]
  intro hb
  simp only [decide_true, Bool.true_and, Bool.and_true, dec_nat]
  exact hk _ hb hk1

theorem idx_loop {n : Nat} (hn : 1 ≤ n) {h0 : H} (hbd0 : Bd h0) {v : V} {es : List Ent} (hv : VecE h0 v 66 14 enc es) (hl : es.length ≤ 1000) {q a : Nat} {ty : TypeId} {w : Bool} (hq : h0.mem.get q = some (.c [.i .u8 10, .i .u8 0, .i .u8 0, .i .u8 (a : Int)] ty w)) {K : V → H → Prop} :
    ∀ (fuel k : Nat) (h : H), es.length < fuel + k → k ≤ es.length → But h0 h none → (∀ h', Bd h' → But h0 h' none → K (.i .i64 (fnd a (es.drop k) k)) h') → (∀ v h', K v h' ∨ True) → Bd h →
    F45_9 pw xx (Ok Try.prog n) K fuel v (.f 46 [.p q 0]) (.i .i64 (es.length : Nat)) (.i .i64 (k : Nat)) h := by
  intro fuel
  induction fuel with
  | zero => intro k h h1 h2; omega
  | succ fuel ih =>
    intro k h h1 h2 hb hk _ hbd
    rw [S45_9]
    by_cases hlt : k < es.length
    · simp (disch := omega) only [ws, dec_t, F45_15]
      refine vece_at enc_len (hv.keep (hv.lt hbd0) hb (.inr rfl)) rfl hlt fun b ha => ?_
      rw [ha.all]
      simp (disch := omega) only [ws, List.cons_append, List.nil_append]
      refine cl46_ok hn (hb.get (hbd0 _ _ hq) (by simp) hq) fun h' hbd' hb' => ?_
      have hd : es.drop k = es[k] :: es.drop (k + 1) := List.drop_eq_getElem_cons hlt
      by_cases he : es[k].a = a
      · simp (disch := omega) only [ws, dec_t he]
        rw [hd] at hk
        simp only [fnd, if_pos he] at hk
        exact hk h' hbd' (hb.trans hb')
      · simp (disch := omega) only [ws, dec_f he, F45_20]
        rw [hd] at hk
        simp only [fnd, if_neg he] at hk
        exact ih (k + 1) h' (by omega) (by omega) (hb.trans hb') hk (fun _ _ => .inr trivial) hbd'
    · simp (disch := omega) only [ws, dec_f, F45_4]
      rw [List.drop_eq_nil_of_le (by omega)] at hk
      exact hk h hbd hb

theorem find_ok {n : Nat} (hn : 3 ≤ n) {r a : Nat} {c : Option Nat} {now : Int} {es : List Ent} {h : H} {K : V → H → Prop} (ht : NT h r c now es) (hl : es.length ≤ 1000)
    (hk : ∀ h', Bd h' → But h h' none → K (.i .i64 (fnd a es 0)) h') : Ok Try.prog n 35 [.p r 0, adr a] h K := by
  obtain ⟨n, rfl⟩ := Nat.exists_eq_add_of_le' hn
  refine K35 fun hbd => ?_
  simp (disch := omega) only [F35]
  refine bx_a (cs := [.i .u8 10, .i .u8 0, .i .u8 0, .i .u8 (a : Int)]) rfl fun q h0 hq hb0 _ _ => ?_
  obtain ⟨lv, h1, h2, h3⟩ := ht.keep hbd hb0
  rw [nl_p, fa_p, l1_a h1 rfl, cf_k]
  refine K45 fun hbd2 => ?_
  simp (disch := omega) only [F45, vece_len tt60 rfl h2]
  refine idx_loop (by omega) hbd2 h2 hl hq 100000 0 _ (by omega) (by omega) (But.refl _ _) (fun h' hbd' hb' => ?_) (fun _ _ => .inr trivial) hbd2
  rw [List.drop_zero]
  exact hk h' hbd' (hb0.trans hb')
end Go.Proofs.Ythmnfjaogoennaa.Wb
