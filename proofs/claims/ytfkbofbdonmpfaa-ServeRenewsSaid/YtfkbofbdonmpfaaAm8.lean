/- The abstract machine: the operations that look at no memory, joined. -/
import Derived.Test.YtfkbofbdonmpfaaAm7
set_option linter.unusedSimpArgs false
set_option linter.unusedVariables false
set_option linter.unusedSectionVars false
set_option linter.unnecessarySimpa false
namespace Go.Am
open Go.Instr

section
variable {P : Program} {j : Inj} (w : World)

/-- An operand that may be missing. -/
def OptRel (j : Inj) : Option V → Option Value → Prop
  | none, none => True
  | some v, some v' => ren j v = some v'
  | _, _ => False

theorem bound_some {v : V} {v' : Value} {d lim n lim' : Nat} (code : BoundsCode) (h : bound (some v) d lim = some n) (hv : ren j v = some v') (hl : lim ≤ lim') :
    (sliceBound v' lim' code).run P w = .ok n w ∧ n ≤ lim := by
  unfold bound at h
  split at h
  · rename_i e; cases e
  · rename_i k m e
    cases e
    rw [inv_i hv]
    cases hb : Nat.ble m lim with
    | false => rw [hb] at h; cases h
    | true =>
      rw [hb] at h; cases h
      have := Nat.le_of_ble_eq_true hb
      refine ⟨?_, this⟩
      simp only [sliceBound, asIntOf, Sem.run_bind, Sem.run_pure, Result.andThen_ok]
      rw [if_pos ⟨by simp, by simp; omega⟩]; rfl
  · cases h

theorem bound_none {d lim n : Nat} (h : bound none d lim = some n) : n = d := by simp [bound] at h; exact h.symm

/-- The three bounds of a slice expression. -/
theorem bounds_run {b : Bool} {len cap cap' l h m : Nat} {lo hi mx : Option V} {lo' hi' mx' : Option Value} (rl : OptRel j lo lo') (rh : OptRel j hi hi') (rm : OptRel j mx mx')
    (h1 : bound mx cap cap = some m) (h2 : bound hi len m = some h) (h3 : bound lo 0 h = some l) (hb : mx = none ∨ hi ≠ none) (hc : cap ≤ cap') :
    (sliceBounds b len cap' lo' hi' mx').run P w = .ok (l, h, if mx = none then cap' else m) w ∧ m ≤ cap ∧ (hi ≠ none → h ≤ m) ∧ (lo ≠ none → l ≤ h) ∧ (lo = none → l = 0) ∧ (hi = none → h = len) ∧ (mx = none → m = cap) := by
  cases mx with
  | none =>
    cases mx' with
    | some _ => exact rm.elim
    | none =>
      obtain rfl := bound_none h1
      cases hi with
      | none =>
        cases hi' with
        | some _ => exact rh.elim
        | none =>
          obtain rfl := bound_none h2
          cases lo with
          | none =>
            cases lo' with
            | some _ => exact rl.elim
            | none =>
              obtain rfl := bound_none h3
              simp [sliceBounds]
          | some lo =>
            cases lo' with
            | none => exact rl.elim
            | some lo' =>
              obtain ⟨k1, k2⟩ := bound_some (P := P) w .sliceB h3 rl (Nat.le_refl _)
              simp [sliceBounds, k1, k2]
      | some hi =>
        cases hi' with
        | none => exact rh.elim
        | some hi' =>
          obtain ⟨k1, k2⟩ := bound_some (P := P) w (if b then .sliceAcap else .sliceAlen) h2 rh hc
          cases lo with
          | none =>
            cases lo' with
            | some _ => exact rl.elim
            | none =>
              obtain rfl := bound_none h3
              simp [sliceBounds, k1, k2]
          | some lo =>
            cases lo' with
            | none => exact rl.elim
            | some lo' =>
              obtain ⟨k3, k4⟩ := bound_some (P := P) w .sliceB h3 rl (Nat.le_refl _)
              simp [sliceBounds, k1, k2, k3, k4]
  | some mx =>
    cases mx' with
    | none => exact rm.elim
    | some mx' =>
      obtain ⟨k5, k6⟩ := bound_some (P := P) w (if b then .slice3Acap else .slice3Alen) h1 rm hc
      cases hi with
      | none => simp at hb
      | some hi =>
        cases hi' with
        | none => exact rh.elim
        | some hi' =>
          obtain ⟨k1, k2⟩ := bound_some (P := P) w .slice3B h2 rh (Nat.le_refl _)
          cases lo with
          | none =>
            cases lo' with
            | some _ => exact rl.elim
            | none =>
              obtain rfl := bound_none h3
              simp [sliceBounds, k1, k2, k5, k6]
          | some lo =>
            cases lo' with
            | none => exact rl.elim
            | some lo' =>
              obtain ⟨k3, k4⟩ := bound_some (P := P) w .slice3C h3 rl (Nat.le_refl _)
              simp [sliceBounds, k1, k2, k3, k4, k5, k6]

theorem goS_run {r0 o len cap cap' sz : Nat} {el b : Bool} {lo hi mx : Option V} {lo' hi' mx' : Option Value} {r : V} {q : J} (h : goS r0 o len cap el sz lo hi mx = some r) (hq : j r0 = some q) (hc : cap' = cap + if el then q.e else 0)
    (rl : OptRel j lo lo') (rh : OptRel j hi hi') (rm : OptRel j mx mx') :
    ∃ l hh m, (sliceBounds b len cap' lo' hi' mx').run P w = .ok (l, hh, m) w ∧ ren j r = some (.slice (some ⟨q.c, q.d + (if m = l then o else o + l * sz), none⟩) (hh - l) (m - l)) := by
  unfold goS at h
  cases h1 : bound mx cap cap with
  | none => simp [h1] at h
  | some m =>
    simp only [h1] at h
    cases h2 : bound hi len m with
    | none => simp [h2] at h
    | some hh =>
      simp only [h2] at h
      cases h3 : bound lo 0 hh with
      | none => simp [h3] at h
      | some l =>
        simp only [h3] at h
        have hb : mx = none ∨ hi ≠ none := by cases mx <;> cases hi <;> simp_all
        obtain ⟨b1, b2, b3, b4, b5, b6, b7⟩ := bounds_run (P := P) (b := b) (cap' := cap') w rl rh rm h1 h2 h3 hb (by omega)
        refine ⟨l, hh, _, b1, ?_⟩
        cases mx with
        | some mxv =>
          cases hi with
          | none => simp at h
          | some hiv =>
            simp only [Option.some.injEq] at h; subst h
            simp only [ren, hq, Option.map_some, reduceCtorEq, if_false]
            cases hm : Nat.beq m l with
            | true => simp [Nat.eq_of_beq_eq_true hm]
            | false => simp [Nat.ne_of_beq_eq_false hm]
        | none =>
          obtain rfl := b7 rfl
          simp only [if_true]
          have h : (bif Nat.beq m l then (bif Nat.beq hh l then (bif el then some (V.se r0 o (o + l * sz)) else some (V.sl r0 o 0 0 false)) else none) else bif Nat.blt l m then some (V.sl r0 (o + l * sz) (hh - l) (m - l) el) else none) = some r := by
            cases hi <;> exact h
          cases hm : Nat.beq m l with
          | true =>
            rw [hm] at h; simp only [cond_true] at h
            obtain rfl := Nat.eq_of_beq_eq_true hm
            cases hhl : Nat.beq hh m with
            | false => rw [hhl] at h; cases h
            | true =>
              obtain rfl := Nat.eq_of_beq_eq_true hhl
              rw [hhl] at h; simp only [cond_true] at h
              cases el with
              | true =>
                simp only [cond_true, Option.some.injEq] at h; subst h
                simp only [ren, hq, Option.map_some, hc, if_true]
                by_cases e : q.e = 0
                · simp [e]
                · rw [if_neg e, if_neg (by omega)]; simp
              | false =>
                simp only [cond_false, Option.some.injEq] at h; subst h
                simp [ren, hq, hc]
          | false =>
            rw [hm] at h; simp only [cond_false] at h
            cases hlt : Nat.blt l m with
            | false => rw [hlt] at h; cases h
            | true =>
            rw [hlt] at h; simp only [cond_true, Option.some.injEq] at h; subst h
            have hlt' : l < m := by simpa [Nat.blt_eq] using hlt
            have hne' : ¬ cap' = l := by omega
            have hsub : m - l + (if el = true then q.e else 0) = cap' - l := by omega
            simp only [ren, hq, Option.map_some, if_neg hne', hsub]

theorem goE_run {v r : V} {lo hi mx : Option V} {lo' hi' mx' : Option Value} {b : Bool} {cap' : Nat} (h : goE v lo hi mx = some r) (rl : OptRel j lo lo') (rh : OptRel j hi hi') (rm : OptRel j mx mx') (hz : cap' = 0 ∨ ∃ x y z, v = .se x y z) :
    r = v ∧ (sliceBounds b 0 cap' lo' hi' mx').run P w = .ok (0, 0, cap') w := by
  unfold goE at h
  cases h1 : bound mx 0 0 with
  | none => simp [h1] at h
  | some m =>
    simp only [h1] at h
    cases h2 : bound hi 0 0 with
    | none => simp [h2] at h
    | some hh =>
      simp only [h2] at h
      cases h3 : bound lo 0 0 with
      | none => simp [h3] at h
      | some l =>
        simp only [h3] at h
        have hb : mx = none ∨ hi ≠ none := by cases mx <;> cases hi <;> simp_all
        have e1 : m = 0 := by cases mx with
          | none => exact bound_none h1
          | some mv => cases mx' with
            | none => exact rm.elim
            | some mv' => have := (bound_some (P := P) w .index h1 rm (Nat.le_refl 0)).2; omega
        have e2 : hh = 0 := by cases hi with
          | none => exact bound_none h2
          | some mv => cases hi' with
            | none => exact rh.elim
            | some mv' => have := (bound_some (P := P) w .index h2 rh (Nat.le_refl 0)).2; omega
        have e3 : l = 0 := by cases lo with
          | none => exact bound_none h3
          | some mv => cases lo' with
            | none => exact rl.elim
            | some mv' => have := (bound_some (P := P) w .index h3 rl (Nat.le_refl 0)).2; omega
        subst e1 e2 e3
        obtain ⟨b1, _⟩ := bounds_run (P := P) (b := b) (cap' := cap') w rl rh rm h1 h2 h3 hb (by omega)
        cases mx with
        | none =>
          simp only [Option.some.injEq] at h
          refine ⟨by cases hi <;> exact h.symm, by rw [b1]; simp⟩
        | some mv =>
          cases hi with
          | none => simp at h
          | some hv =>
            rcases hz with rfl | ⟨x, y, z, rfl⟩
            · refine ⟨?_, by rw [b1]; simp⟩
              cases v <;> simp at h <;> exact h.symm
            · simp at h


theorem slc_run {t : TypeId} {v r : V} {lo hi mx : Option V} {v' : Value} {lo' hi' mx' : Option Value} (h : slc (mkX P) t v lo hi mx = some r) (hv : ren j v = some v')
    (rl : OptRel j lo lo') (rh : OptRel j hi hi') (rm : OptRel j mx mx') : ∃ r', ren j r = some r' ∧ (sliceAt t v' lo' hi' mx').run P w = .ok r' w := by
  unfold slc at h
  have h0 := ti_ok h
  clear h
  obtain ⟨i, ⟨k⟩, h⟩ := h0
  have hd := k.hd
  have hk := k.k_eq
  cases hki : i.k <;> simp only [hki] at h <;> try (cases h; done)
  case str =>
    rw [hki] at hk; rw [kOf_str hk.symm] at hd
    cases v <;> simp only [reduceCtorEq] at h
    case s l =>
    rw [inv_s hv]
    cases mx with
    | some _ => cases h
    | none =>
      cases mx' with
      | some _ => exact rm.elim
      | none =>
        simp only at h
        cases h2 : bound hi l.length l.length with
        | none => simp [h2] at h
        | some hh =>
          simp only [h2] at h
          cases h3 : bound lo 0 hh with
          | none => simp [h3] at h
          | some kk =>
            simp only [h3, Option.some.injEq] at h; subst h
            obtain ⟨b1, _⟩ := bounds_run (P := P) (b := false) (cap := l.length) (cap' := l.length) w rl rh (mx := none) (mx' := none) trivial rfl h2 h3 (.inl rfl) (Nat.le_refl _)
            refine ⟨_, rfl, ?_⟩
            simp only [sliceAt, slice, Sem.run_bind, run_underlying hd, Result.andThen_ok, ByteArray.size, List.size_toArray, Option.isSome_none, Bool.false_eq_true, if_false, b1, Sem.run_pure]
            congr 2
            apply ByteArray.ext
            simp
  case sl e =>
    rw [hki] at hk; rw [kOf_sl hk.symm] at hd
    cases v <;> simp only [reduceCtorEq] at h
    case ns =>
      obtain ⟨ie, ⟨ke⟩, h⟩ := ti_ok h
      rw [inv_ns hv]
      obtain ⟨rfl, b1⟩ := goE_run (P := P) (b := true) (cap' := 0) w h rl rh rm (.inl rfl)
      exact ⟨_, rfl, by simp [sliceAt, slice, run_underlying hd, b1, ke.sizeOf]⟩
    case sl r0 o len cap el =>
      obtain ⟨q, hq, rfl⟩ := inv_sl hv
      obtain ⟨ie, ⟨ke⟩, h⟩ := ti_ok h
      obtain ⟨l, hh, m, b1, b2⟩ := goS_run (P := P) (b := true) w h hq rfl rl rh rm
      refine ⟨_, b2, ?_⟩
      simp only [sliceAt, slice, Sem.run_bind, run_underlying hd, Result.andThen_ok, b1, ke.sizeOf, Sem.run_pure]
      congr 2
      by_cases e : m = l
      · simp [e]
      · simp [e, addr_add, Nat.add_assoc]
    case se r0 o' o =>
      obtain ⟨q, hq, rfl⟩ := inv_se hv
      obtain ⟨ie, ⟨ke⟩, h⟩ := ti_ok h
      obtain ⟨rfl, b1⟩ := goE_run (P := P) (b := true) (cap' := q.e) w h rl rh rm (.inr ⟨_, _, _, rfl⟩)
      refine ⟨_, hv, ?_⟩
      simp only [sliceAt, slice, Sem.run_bind, run_underlying hd, Result.andThen_ok, b1, ke.sizeOf, Sem.run_pure]
      congr 2
      by_cases e : q.e = 0
      · simp [e]
      · simp [e, addr_add]
    case ze r0 =>
      obtain ⟨q, hq, rfl⟩ := inv_ze hv
      obtain ⟨ie, ⟨ke⟩, h⟩ := ti_ok h
      obtain ⟨rfl, b1⟩ := goE_run (P := P) (b := true) (cap' := 0) w h rl rh rm (.inl rfl)
      refine ⟨_, hv, ?_⟩
      simp [sliceAt, slice, run_underlying hd, b1, ke.sizeOf]
  case arr n e =>
    rw [hki] at hk; rw [kOf_arr hk.symm] at hd
    cases v <;> simp only [reduceCtorEq] at h
    case p r0 o =>
    obtain ⟨q, hq, rfl⟩ := inv_p hv
    obtain ⟨ie, ⟨ke⟩, h⟩ := ti_ok h
    obtain ⟨l, hh, m, b1, b2⟩ := goS_run (P := P) (b := false) (cap' := n) w h hq (by simp) rl rh rm
    refine ⟨_, b2, ?_⟩
    simp only [sliceAt, Sem.run_bind, run_underlying hd, Result.andThen_ok, sureAddr, Sem.run_pure, b1, ke.sizeOf]
    congr 2
    by_cases e : m = l
    · simp [e]
    · simp [e, addr_add, Nat.add_assoc]

end
end Go.Am
