/- Who has which address, with fixed devices and barred addresses: 'Take'. -/
import Derived.Test.YtfkbofbdonmpfaaPr7
set_option linter.unusedSimpArgs false
set_option linter.unusedVariables false
set_option linter.unusedSectionVars false
set_option linter.unnecessarySimpa false
set_option maxRecDepth 100000
namespace Go.Proofs.Ytfkbofbdonmpfaa.Wb
open Go.Am

/-- The address's entry is laid anew, or pushed. -/
def putA (x : He) (a : Int) (es : List He) : List He := if 0 ≤ fndP (isA a) es 0 then es.set (fndP (isA a) es 0).toNat x else es ++ [x]
theorem PG.cf {h h' : H} {r : Nat} {c : Option Nat} {fx : List Le} {ms : List (V × V × Nat)} {first last now : Int} {es es' : List He} (ht : PG h r c fx ms first last now es) (hbd : Bd h) (hb : But h h' c) (hv : ∀ lv, VecE h lv 148 12 encH es → vblk lv = c → VecE h' lv 148 12 encH es') : PG h' r c fx ms first last now es' := by
  obtain ⟨lv, fv, mb, kk, f1, f2, f3, f4, f5, f6, f7, f8, f9⟩ := ht
  have hcm := PG.mb f2 f3 f5
  exact ⟨lv, fv, mb, kk, hb.get (hbd _ _ f1) (fun e => f4 e.symm) f1, hv lv f2 f3, f3, f4, hb.get (hbd _ _ f5) (fun e => hcm e.symm) f5, f6, f7.keep (f7.lt hbd) hb (by
    cases hc : c with
    | none => exact .inr rfl
    | some z => exact .inl (f9 z hc)), f8, f9⟩

theorem takT_ok {n : Nat} {r p q : Nat} {c : Option Nat} {fx : List Le} {ms : List (V × V × Nat)} {first last T m a s : Int} (hT : 0 ≤ T ∧ T ≤ 1099511627776) (hs : 1 ≤ s ∧ s ≤ 1000000000) {es : List He} (hl : es.length ≤ 9999) {h : H} {K : V → H → Prop} (hbd : Bd h) (ht : PG h r c fx ms first last T es) (hp : h.mem.get p = some (.c (maV m) 53 true)) (hq : h.mem.get q = some (.c (adV a) 28 true))
    (hk : ∀ h' c', Bd h' → But2 h h' r c → (c' = c ∨ ∃ z, c' = some z ∧ h.next ≤ z) → PG h' r c' fx ms first last T (putA ⟨⟨m, a, T + s⟩, false⟩ a es) → K (.i .i64 0) h') : F42_25 pw xx (Ok Try.prog (n + 4)) (fun v h' => Bd h' → K v h') (.p r 0) (.i .i64 T) (.i .i64 s) (.p p 0) (.p q 0) h := by
  simp (disch := omega) only [F42_25, ws, ln_w (sz := 6) hp rfl, ln_w (sz := 4) hq rfl]
  refine bl_a (v := .a (encL ⟨m, a, T + s⟩)) ?_ ?_
  · simp only [blW, ti, tt92, placesSt, maV, adV, cellsOfV, List.getElem?_cons_zero, List.getElem?_cons_succ, fillA]; rfl
  refine bl_a (v := .a (encH ⟨⟨m, a, T + s⟩, false⟩)) ?_ ?_
  · simp only [blW, ti, tt148, placesSt, encL, cellsOfV, List.getElem?_cons_zero, List.getElem?_cons_succ, fillA]; rfl
  generalize (⟨⟨m, a, T + s⟩, false⟩ : He) = x at hk ⊢
  refine al_a tt148 fun z h6 hz hb6 hz1 hz2 => ?_
  refine sn_w (w := .a (encH x)) (cs := encH x) hz rfl rfl rfl (encH_one _) fun h7 hg7 hb7 => ?_
  have hb07 : But h h7 none := hb6.over hb7 (.inr fun r e => by cases e; exact hz1)
  have hq7 := hb07.get (hbd _ _ hq) (by simp) hq
  have hzl : z < h7.next := Nat.lt_of_lt_of_le hz2 hb7.1
  rw [ln_w (sz := 4) hq7 rfl]
  refine ofG_ok (by omega) (ht.keep hbd hb07) (by omega) fun h8 hbd8 hb8 => ?_
  have hb08 := hb07.trans hb8
  have ht8 := ht.keep hbd hb08
  have hg8 := hb8.get hzl (by simp) hg7
  by_cases hneg : fndP (isA a) es 0 < 0
  · simp (disch := omega) only [ws, dec_f]
    refine pushG_ok ht8 hbd8 hg8 (by omega) fun h9 c' ht9 hc9 hb9 => ?_
    simp only [F42_40]
    intro hbd9
    refine hk h9 c' hbd9 ((hb08.two (.inl rfl)).trans hb9) ?_ (by rw [putA, if_neg (by omega)]; exact ht9)
    rcases hc9 with h | ⟨z, h, hz⟩
    · exact .inl h
    · exact .inr ⟨z, h, Nat.le_trans hb08.1 hz⟩
  · obtain ⟨j, hj, g1, g2, _⟩ := fndP_some (show 0 ≤ fndP (isA a) es 0 by omega)
    rw [Nat.zero_add] at g1
    obtain ⟨lv, fv, mb, kk, f1, f2, f3, f4⟩ := id ht8
    have r3 : ∀ κ : V → Prop, pw.l1 (.p r (0 + 3)) h8 κ = κ lv := fun κ => l1_a f1 rfl
    have hput : putA x a es = es.set j x := by rw [putA, if_pos (by omega), g1, Int.toNat_natCast]
    rw [hput] at hk
    rw [g1]
    simp (disch := omega) only [ws, dec_t, r3, ln_w (sz := 12) hg8 rfl]
    refine vece_at encH_len f2 (i := j) rfl hj fun b ha => ?_
    refine vece_set encH_len f2 (i := j) hj ha.blk (e' := x) (encH_one _) fun h9 hv9 hb9 => ?_
    simp only [F42_40]
    intro hbd9
    rw [f3] at hb9
    exact hk h9 c hbd9 ((hb08.two (.inl rfl)).trans (hb9.two (.inr (.inr rfl)))) (.inl rfl) (by
      obtain ⟨lv2, fv2, mb2, kk2, y1, y2, y3, y4, y5, y6, y7, y8, y9⟩ := id ht8
      have hll : lv2 = lv := by
        rw [f1] at y1
        simp only [Option.some.injEq, B.c.injEq, List.cons.injEq] at y1
        exact y1.1.2.2.2.1.symm
      subst hll
      have hcm := PG.mb y2 y3 y5
      exact ⟨lv2, fv2, mb2, kk2, hb9.get (hbd8 _ _ y1) (fun e => y4 e.symm) y1, hv9, y3, y4, hb9.get (hbd8 _ _ y5) (fun e => hcm e.symm) y5, y6, y7.keep (y7.lt hbd8) hb9 (by
        cases hc : c with
        | none => exact .inr rfl
        | some z => exact .inl (y9 z hc)), y8, y9⟩)
end Go.Proofs.Ytfkbofbdonmpfaa.Wb
