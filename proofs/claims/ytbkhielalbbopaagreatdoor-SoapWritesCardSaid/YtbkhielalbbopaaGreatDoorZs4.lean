/- A text made anew; an error told; a number read. -/
import Derived.Test.YtbkhielalbbopaaGreatDoorZs3
set_option linter.unusedSimpArgs false
set_option linter.unusedVariables false
set_option linter.unusedSectionVars false
set_option linter.unnecessarySimpa false
set_option maxRecDepth 100000
namespace Go.Proofs.YtbkhielalbbopaaGreatDoor.Wb
open Go Go.Am Go.Am.Xm

theorem copy_str {h : H} {r : Nat} {l : Bs} (h0 : 0 < l.length) (hg : h.mem.get r = some (.c (u8s (List.replicate l.length 0)) 5 true)) :
    copyH (mkX Tryz.prog) h 60 (.sl r 0 l.length l.length false) (.s l) = some (.i .i64 (l.length : Int), ⟨h.next, h.mem.put r (some (.c (u8s l) 5 true))⟩) := by
  have e1 : over (u8s (List.replicate l.length 0)) (u8s l) = some (u8s l) := by
    rw [over_mk (by simp [u8s])]
    simp [u8s]
  have e2 : storeB h r 0 (u8s l) = some ⟨h.next, h.mem.put r (some (.c (u8s l) 5 true))⟩ := by
    unfold storeB
    rw [hg]
    simp only [u8s_one, Bool.and_self, cond_true]
    cases hl : u8s (List.replicate l.length 0) with
    | nil => simp only [overAt]; rw [hl] at e1; simp only [e1, T.seq_eq]
    | cons a b => simp only [overAt]; rw [hl] at e1; simp only [e1, T.seq_eq]
  have e3 : Nat.beq l.length 0 = false := beq_no (by omega)
  unfold copyH
  rw [ti_some _ tt60]
  simp only
  rw [ti_some _ tt5]
  simp only [lenV, Nat.min_self, fcells, List.take_length, e3, cond_false]
  rw [show (l.map fun c => V.i .u8 (c.toNat : Int)) = u8s l from rfl, e2]

theorem clone_ok {n : Nat} (hn : 1 ≤ n) {l : Bs} {h : H} {K : V → H → Prop} (hl : l.length ≤ 1099511627776) (k : ∀ h', But h h' none → K (.s l) h') : Ok Tryz.prog n 175 [.s l] h K := by
  obtain ⟨n, rfl⟩ := Nat.exists_eq_add_of_le' hn
  refine Ok.bd (K175 fun hbd => ?_)
  unfold F175
  rw [lg_s tt9 rfl]
  by_cases h0 : l = []
  · subst h0
    simp (disch := omega) only [ws, List.length_nil, Int.cast_ofNat_Int, dec_t]
    exact fun _ => k h (But.refl _ _)
  · have hp := List.length_pos_iff.2 h0
    have d0 : decide ((l.length : Int) = 0) = false := by simpa using h0
    simp (disch := omega) only [ws, d0, F175_3]
    rw [lg_s tt9 rfl]
    show (0 : Int) ≤ (l.length : Int) ∧ (l.length : Int) ≤ (l.length : Int) ∧ _
    refine ⟨by omega, Int.le_refl _, ?_⟩
    rw [tt60]
    simp only [oP]
    rw [tt5]
    simp only [Int.toNat_natCast]
    refine ⟨by omega, by omega, ?_⟩
    rw [repl_bytes]
    have hg : (h.mem.put h.next (some (B.c (u8s (List.replicate l.length 0)) 5 true))).get h.next = some (B.c (u8s (List.replicate l.length 0)) 5 true) := by rw [T.get_put, if_pos rfl]
    have hc := copy_str (h := ⟨h.next + 1, h.mem.put h.next (some (B.c (u8s (List.replicate l.length 0)) 5 true))⟩) hp hg
    show vhP (copyH (mkX Tryz.prog) _ 60 _ _) _
    rw [hc]
    simp only [vhP]
    show (0 : Int) ≤ 0 ∧ (0 : Int) < (l.length : Int) ∧ _
    refine ⟨Int.le_refl _, by omega, ?_⟩
    dsimp only
    rw [ls_sl tt60 rfl]
    simp only [Int.toNat_zero, Nat.zero_mul, Nat.add_zero]
    have hg2 : ((h.mem.put h.next (some (B.c (u8s (List.replicate l.length 0)) 5 true))).put h.next (some (B.c (u8s l) 5 true))).get h.next = some (B.c (u8s l) 5 true) := by rw [T.get_put, if_pos rfl]
    rw [us_n tt182 rfl tt5 rfl hg2 (by simp [u8s]) (by rw [← u8s_len l, List.take_length]) hl hp]
    intro hb2
    refine k _ ⟨Nat.le_succ _, fun q hq _ => ?_, fun _ => hb2⟩
    show (((h.mem.put h.next _).put h.next _).put h.next none).get q = _
    rw [T.get_put, if_neg (by omega), T.get_put, if_neg (by omega), T.get_put, if_neg (by omega)]

/-- What the variables hold that are asked for: MaxLen a number, ErrSyntax an error. -/
structure Low (h : H) : Prop where
  ml : ∃ m ty w, h.mem.get 2 = some (.c [.i .i64 m] ty w)
  es : ∃ t r ty w, h.mem.get 4 = some (.c [.ic t (.p r 0)] ty w)
  nx : 16 ≤ h.next
theorem Low.keep {h h' : H} {q : Option Nat} (L : Low h) (k : But h h' q) (hq : ∀ r, q = some r → 16 ≤ r) : Low h' := by
  obtain ⟨m, ty, w, e1⟩ := L.ml
  obtain ⟨t, r, ty', w', e2⟩ := L.es
  have := L.nx
  exact ⟨⟨m, ty, w, k.get (by omega) (fun e => by have := hq 2 e.symm; omega) e1⟩, ⟨t, r, ty', w', k.get (by omega) (fun e => by have := hq 4 e.symm; omega) e2⟩, Nat.le_trans L.nx k.1⟩

theorem eq_ic {t a : TypeId} {i j : TI} {k k' : IntKind} {m n : Int} {κ : V → Prop} {e : Bool} (ht : (mkX Tryz.prog).tt.get t = some i) (hk : i.k = .ifc e) (ha : (mkX Tryz.prog).tt.get a = some j) (hj : j.k = .int k') : pw.eq (mkX Tryz.prog) t (.ic a (.i k m)) (.ic a (.i k n)) κ = κ (.b (decide (m = n))) := by
  simp only [pw, bin, ti_some _ ht, eqOp, hk, Nat.beq_refl, cond_true, ti_some _ ha, hj, if_true, oP]
theorem mi_i {t : TypeId} {i : TI} {v : V} {κ : V → Prop} (ht : (mkX Tryz.prog).tt.get t = some i) (hk : ∀ b, i.k ≠ .ifc b) : pw.mi (mkX Tryz.prog) t v κ = κ (.ic t v) := by
  have e : pw.mi (mkX Tryz.prog) t v κ = oP ((mkX Tryz.prog).tt.get t) fun i => match i.k with
    | .ifc _ => False
    | _ => κ (.ic t v) := rfl
  rw [e, ht]
  cases hk' : i.k with
  | ifc b => exact absurd hk' (hk b)
  | _ => simp only [oP, hk']

theorem toerr_ok {n : Nat} (hn : 3 ≤ n) {a b : Bs} {u w : V} {h : H} {K : V → H → Prop} (L : Low h) (hl : b.length ≤ 1099511627776) (k : ∀ h' r, But h h' none → K (.ic 191 (.p r 0)) h') : Ok Tryz.prog n 131 [.s a, .s b, u, w, .ic 188 (.i .i64 2)] h K := by
  obtain ⟨n, rfl⟩ := Nat.exists_eq_add_of_le' hn
  refine Ok.bd (K131 fun hbd => ?_)
  unfold F131
  rw [mi_i tt188 (by simp), eq_ic tt142 rfl tt188 rfl]
  simp (disch := omega) only [ws, dec_t]
  refine K151 fun hbd => ?_
  unfold F151
  show Ok Tryz.prog (n + 1) 175 [.s b] h fun v h' => KeepH h h' ∧ _
  refine clone_ok (by omega) hl fun h1 f1 => ?_
  refine ⟨fun q hq => f1.2.1 q hq (by simp), ?_⟩
  obtain ⟨t, r, ty, wo, e⟩ := L.es
  rw [l1_a e rfl]
  refine bl_a (v := .a [.s a, .s b, .ic t (.p r 0)]) ?_ ?_
  · unfold blW
    rw [ti_some _ tt207]
    rfl
  refine bx_a rfl fun r2 h2 g2 f2 _ _ => ?_
  dsimp only
  rw [mi_i tt191 (by simp)]
  intro _
  exact k h2 r2 (f1.trans f2)
end Go.Proofs.YtbkhielalbbopaaGreatDoor.Wb
