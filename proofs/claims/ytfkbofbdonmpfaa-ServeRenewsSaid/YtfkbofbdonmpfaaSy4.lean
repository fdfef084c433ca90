/- The machine with names for integers: its operations answer for the plain machine's. -/
import Derived.Test.YtfkbofbdonmpfaaSy3
import Derived.Test.YtfkbofbdonmpfaaAm21
set_option linter.unusedSimpArgs false
set_option linter.unusedVariables false
set_option linter.unusedSectionVars false
set_option linter.unnecessarySimpa false
namespace Go.Am

def XClean (x : X) : Prop := ∀ t i, x.tt.get t = some i → cleans i.zero = true ∧ clean i.zv = true

theorem tAll_get {α : Type} {p : α → Bool} : ∀ {t : T α} {i : Nat} {v : α}, tAll p t = true → t.get i = some v → p v = true
  | .l, i, v, _, h => by simp [T.get] at h
  | .n a o b, 0, v, ha, h => by
    simp only [T.get] at h
    subst h
    simp only [tAll, Bool.and_eq_true] at ha
    exact ha.2
  | .n a o b, i + 1, v, ha, h => by
    simp only [tAll, Bool.and_eq_true] at ha
    simp only [T.get] at h
    cases hb : Nat.beq (i % 2) 0 <;> rw [hb] at h
    · exact tAll_get ha.1.2 h
    · exact tAll_get ha.1.1 h

theorem xClean_ok {x : X} (h : xClean x = true) : XClean x := fun t i ht => by
  have := tAll_get h ht
  simpa using this

section
variable {ρ : Nat → Int} {s s' : Sy}

theorem ev_val {e : Env} {u : Operand} (h : opdClean u = true) : ev (valE ρ e) u = val ρ (ev e u) := by
  cases u with
  | tmp t => exact gv_val ρ e t
  | const v => simp only [opdClean] at h; simp only [ev, val_clean ρ _ h]
  | global g => simp only [ev, val]
  | func f => simp only [opdClean] at h; simp only [ev, val, h, cond_true, vals]

theorem evs_val {e : Env} : ∀ l : List Operand, (∀ u ∈ l, opdClean u = true) → evs (valE ρ e) l = vals ρ (evs e l)
  | [], _ => rfl
  | u :: l, h => by simp only [evs, vals, ev_val (h u (by simp)), evs_val l fun w hw => h w (by simp [hw])]

theorem evParts_val {e : Env} : ∀ l : List (Nat × Operand), (∀ u ∈ l, opdClean u.2 = true) → evParts (valE ρ e) l = partsV ρ (evParts e l)
  | [], _ => rfl
  | (n, u) :: l, h => by simp only [evParts, partsV, ev_val (h (n, u) (by simp)), evParts_val l fun w hw => h w (by simp [hw])]

/-! ### Small ones -/

theorem runs_liftC {o : Option V} {v : V} (h : Runs ρ (liftC o) s v s') : o = some v ∧ val ρ v = v := by
  unfold liftC at h
  split at h
  · rename_i w
    cases hc : clean w with
    | true =>
      rw [hc] at h
      obtain ⟨rfl, _⟩ := runs_pure h
      exact ⟨rfl, val_clean ρ _ hc⟩
    | false => rw [hc] at h; exact (runs_fail h).elim
  · exact (runs_fail h).elim

theorem bytesV_cells : ∀ l : List UInt8, bytesV (l.map fun c => V.i .u8 c.toNat) = l
  | [] => rfl
  | c :: l => by simp [bytesV, bytesV_cells l]

theorem concBytes_val : ∀ {caps : List V} {l : List UInt8}, concBytes caps = some l → bytesV (vals ρ caps) = l
  | [], l, h => by simp only [concBytes, Option.some.injEq] at h; subst h; rfl
  | v :: caps, l, h => by
    cases v <;> simp only [concBytes, reduceCtorEq] at h
    rename_i k n
    obtain ⟨hc, h⟩ := cond_both h
    cases hr : concBytes caps with
    | none => rw [hr] at h; cases h
    | some r =>
      rw [hr] at h
      simp only [Option.some.injEq] at h
      subst h
      simp only [vals, val, bytesV, vi_conc hc, concBytes_val hr]

theorem val_mkS (caps : List V) : val ρ (mkS caps) = .s (bytesV (vals ρ caps)) := by
  unfold mkS
  split
  · rename_i l h
    rw [concBytes_val h]; rfl
  · simp only [val, show Nat.blt nameB nameB = false from rfl, cond_false]

theorem strV_val {v : V} {caps : List V} (h : strV v = some caps) : val ρ v = .s (bytesV (vals ρ caps)) := by
  cases v <;> simp only [strV, reduceCtorEq, Option.some.injEq] at h
  · subst h
    simp only [val, bytes_cells, bytesV_cells]
  · rename_i fn cs
    cases hb : Nat.blt fn nameB with
    | true => rw [hb] at h; cases h
    | false =>
      rw [hb] at h
      simp only [cond_false, Option.some.injEq] at h
      subst h
      simp only [val, hb, cond_false]

theorem bytesV_append : ∀ a b : List V, bytesV (a ++ b) = bytesV a ++ bytesV b
  | [], b => rfl
  | v :: a, b => by cases v <;> simp [bytesV, bytesV_append a b]

theorem bytesV_length : ∀ a : List V, (bytesV a).length = a.length
  | [] => rfl
  | v :: a => by cases v <;> simp [bytesV, bytesV_length a]

theorem bytesV_map (l : List V) : bytesV l = l.map fun v => match v with
    | .i _ n => UInt8.ofNat n.toNat
    | _ => 0 := by
  induction l with
  | nil => rfl
  | cons v l ih => cases v <;> simp [bytesV, ih]

theorem bytesV_drop (n : Nat) (l : List V) : bytesV (l.drop n) = (bytesV l).drop n := by simp only [bytesV_map, List.map_drop]
theorem bytesV_take (n : Nat) (l : List V) : bytesV (l.take n) = (bytesV l).take n := by simp only [bytesV_map, List.map_take]
theorem vals_take (n : Nat) (l : List V) : vals ρ (l.take n) = (vals ρ l).take n := by simp only [vals_map, List.map_take]
theorem bytesV_get (l : List V) (n : Nat) : (bytesV l)[n]? = (l[n]?).map fun v => match v with
    | .i _ n => UInt8.ofNat n.toNat
    | _ => 0 := by simp only [bytesV_map, List.getElem?_map]

theorem byteM_ok {v u : V} (h : Runs ρ (byteM v) s u s') : val ρ u = .i .u8 ((match val ρ v with | .i _ n => UInt8.ofNat n.toNat | _ => 0).toNat) := by
  unfold byteM at h
  split at h
  · rename_i m
    cases hb : smallByte m with
    | true =>
      rw [hb] at h
      obtain ⟨rfl, _⟩ := runs_pure h
      unfold smallByte at hb
      split at hb
      · rename_i m
        have hm : m < 256 := Nat.le_of_ble_eq_true hb
        have hc : conc (Int.ofNat m) = true := Nat.ble_eq_true_of_le (by unfold nameB; omega)
        simp only [val, vi_conc hc, V.i.injEq, true_and]
        simp; omega
      · cases hb
    | false =>
      rw [hb] at h
      simp only [cond_false] at h
      obtain ⟨z, s1, h1, h2⟩ := runs_bind h
      obtain ⟨rfl, _⟩ := runs_pure h2
      have hd := runs_def h1
      simp only [evD, Option.some.injEq] at hd
      simp only [val, ← hd]
  · exact (runs_fail h).elim

theorem bytesM_ok : ∀ {l us : List V} {s s' : Sy}, Runs ρ (bytesM l) s us s' → vals ρ us = (bytesV (vals ρ l)).map fun c => V.i .u8 c.toNat
  | [], us, s, s', h => by
    simp only [bytesM] at h
    obtain ⟨rfl, _⟩ := runs_pure h
    rfl
  | v :: l, us, s, s', h => by
    simp only [bytesM] at h
    obtain ⟨u, s1, h1, h2⟩ := runs_bind h
    obtain ⟨us1, s2, h3, h4⟩ := runs_bind h2
    obtain ⟨rfl, _⟩ := runs_pure h4
    have h5 := byteM_ok h1
    have ih := bytesM_ok h3
    simp only [vals, ih, h5]
    cases val ρ v <;> rfl

theorem bytesM_length : ∀ {l us : List V} {s s' : Sy}, Runs ρ (bytesM l) s us s' → us.length = l.length := by
  intro l us s s' h
  have := congrArg List.length (bytesM_ok h)
  rw [vals_length, List.length_map, bytesV_length, vals_length] at this
  exact this

theorem eqI_ok {m n : Int} {b : Bool} (h : Runs ρ (eqI m n) s b s') : decide (vi ρ m = vi ρ n) = b := by
  unfold eqI at h
  cases hc : (conc m && conc n) with
  | true =>
    rw [hc] at h
    obtain ⟨rfl, _⟩ := runs_pure h
    rw [Bool.and_eq_true] at hc
    rw [vi_conc hc.1, vi_conc hc.2]
  | false =>
    rw [hc] at h
    exact runs_ask h

theorem u8_eq {a b : UInt8} : ((a.toNat : Int) = (b.toNat : Int)) ↔ a = b := by
  constructor
  · intro h
    have : a.toNat = b.toNat := by omega
    exact UInt8.toNat_inj.1 this
  · rintro rfl; rfl

theorem eqIs_ok : ∀ {xs ys : List V} {a c : List UInt8} {b : Bool} {s s' : Sy}, Runs ρ (eqIs xs ys) s b s' → vals ρ xs = (a.map fun c => V.i .u8 c.toNat) → vals ρ ys = (c.map fun c => V.i .u8 c.toNat) → (a == c) = b
  | [], [], a, c, b, s, s', h, hx, hy => by
    simp only [eqIs] at h
    obtain ⟨rfl, _⟩ := runs_pure h
    cases a with
    | nil => cases c with
      | nil => rfl
      | cons _ _ => simp [vals] at hy
    | cons _ _ => simp [vals] at hx
  | [], _ :: _, _, _, _, _, _, h, _, _ => by simp only [eqIs] at h; exact (runs_fail h).elim
  | _ :: _, [], _, _, _, _, _, h, _, _ => by simp only [eqIs] at h; exact (runs_fail h).elim
  | x :: xs, y :: ys, a, c, b, s, s', h, hx, hy => by
    cases x <;> try (simp only [eqIs] at h; exact (runs_fail h).elim)
    rename_i k m
    cases y <;> try (simp only [eqIs] at h; exact (runs_fail h).elim)
    rename_i k' n
    simp only [eqIs] at h
    obtain ⟨b1, s1, h1, h2⟩ := runs_bind h
    have hb := eqI_ok h1
    cases a with
    | nil => simp [vals] at hx
    | cons a0 a => cases c with
      | nil => simp [vals] at hy
      | cons c0 c =>
        simp only [vals, val, List.map_cons, List.cons.injEq, V.i.injEq] at hx hy
        rw [hx.1.2, hy.1.2] at hb
        cases b1 with
        | true =>
          simp only [cond_true] at h2
          have ih := eqIs_ok h2 hx.2 hy.2
          have hac : a0 = c0 := u8_eq.1 (of_decide_eq_true hb)
          subst hac
          simpa using ih
        | false =>
          simp only [cond_false] at h2
          obtain ⟨rfl, _⟩ := runs_pure h2
          have hac : a0 ≠ c0 := fun e => of_decide_eq_false hb (u8_eq.2 e)
          simp [hac]

theorem eqS_ok {u v : V} {b : Bool} (h : Runs ρ (eqS u v) s b s') : ∃ l l', val ρ u = .s l ∧ val ρ v = .s l' ∧ (l == l') = b := by
  unfold eqS at h
  split at h
  · obtain ⟨rfl, _⟩ := runs_pure h
    exact ⟨_, _, rfl, rfl, rfl⟩
  · split at h
    · rename_i xs ys hx hy
      refine ⟨_, _, strV_val hx, strV_val hy, ?_⟩
      cases hl : Nat.beq xs.length ys.length with
      | true =>
        rw [hl] at h
        simp only [cond_true] at h
        obtain ⟨xs', s1, h1, h2⟩ := runs_bind h
        obtain ⟨ys', s2, h3, h4⟩ := runs_bind h2
        exact eqIs_ok h4 (bytesM_ok h1) (bytesM_ok h3)
      | false =>
        rw [hl] at h
        simp only [cond_false] at h
        obtain ⟨rfl, _⟩ := runs_pure h
        have : xs.length ≠ ys.length := Nat.ne_of_beq_eq_false hl
        rw [beq_eq_false_iff_ne]
        intro e
        have := congrArg List.length e
        rw [bytesV_length, bytesV_length, vals_length, vals_length] at this
        omega
    · exact (runs_fail h).elim

theorem strV_some {v : V} (h : (strV v).isSome = true) : ∃ l, val ρ v = .s l := by
  obtain ⟨caps, hc⟩ := Option.isSome_iff_exists.1 h
  exact ⟨_, strV_val hc⟩

theorem okK_ok : ∀ {ks : List Kd} {xs ys : List V}, okK ks xs ys = true → ∃ b, eqK ks (vals ρ xs) (vals ρ ys) = some b
  | [], [], [], _ => ⟨true, rfl⟩
  | [], [], _ :: _, h => by simp [okK] at h
  | [], _ :: _, _, h => by simp [okK] at h
  | .i :: ks, x :: xs, y :: ys, h => by
    cases x <;> try (simp [okK] at h; done)
    cases y <;> try (simp [okK] at h; done)
    simp only [okK, Bool.and_eq_true, beq_iff_eq] at h
    obtain ⟨b, hb⟩ := okK_ok h.2
    simp only [vals, val, eqK, if_pos h.1, hb]
    exact ⟨_, rfl⟩
  | .b :: ks, x :: xs, y :: ys, h => by
    cases x <;> try (simp [okK] at h; done)
    cases y <;> try (simp [okK] at h; done)
    simp only [okK] at h
    obtain ⟨b, hb⟩ := okK_ok h
    simp only [vals, val, eqK, hb]
    exact ⟨_, rfl⟩
  | .s :: ks, x :: xs, y :: ys, h => by
    simp only [okK, Bool.and_eq_true] at h
    obtain ⟨b, hb⟩ := okK_ok h.2
    obtain ⟨l, hl⟩ := strV_some (ρ := ρ) h.1.1
    obtain ⟨l', hl'⟩ := strV_some (ρ := ρ) h.1.2
    simp only [vals, hl, hl', eqK, hb]
    exact ⟨_, rfl⟩
  | k :: ks, [], _, h => by cases k <;> simp [okK] at h
  | k :: ks, x :: xs, [], h => by cases k <;> cases x <;> simp [okK] at h

theorem eqKM_ok : ∀ {ks : List Kd} {xs ys : List V} {b : Bool} {s s' : Sy}, Runs ρ (eqKM ks xs ys) s b s' → eqK ks (vals ρ xs) (vals ρ ys) = some b
  | [], [], [], b, s, s', h => by
    simp only [eqKM] at h
    obtain ⟨rfl, _⟩ := runs_pure h
    rfl
  | [], [], _ :: _, b, s, s', h => by simp only [eqKM] at h; exact (runs_fail h).elim
  | [], _ :: _, _, b, s, s', h => by simp only [eqKM] at h; exact (runs_fail h).elim
  | .i :: ks, x :: xs, y :: ys, b, s, s', h => by
    cases x <;> try (simp only [eqKM] at h; exact (runs_fail h).elim)
    cases y <;> try (simp only [eqKM] at h; exact (runs_fail h).elim)
    rename_i k m k' n
    simp only [eqKM] at h
    cases hk : (k == k') with
    | false => rw [hk] at h; exact (runs_fail h).elim
    | true =>
      rw [hk] at h
      simp only [cond_true] at h
      have hk' : k = k' := by simpa using hk
      obtain ⟨b1, s1, h1, h2⟩ := runs_bind h
      have hb := eqI_ok h1
      simp only [vals, val, eqK, if_pos hk', hb]
      cases b1 with
      | true =>
        simp only [cond_true] at h2
        simp only [eqKM_ok h2, Bool.true_and]
      | false =>
        simp only [cond_false] at h2
        cases ho : okK ks xs ys with
        | false => rw [ho] at h2; exact (runs_fail h2).elim
        | true =>
          rw [ho] at h2
          obtain ⟨rfl, _⟩ := runs_pure h2
          obtain ⟨b2, hb2⟩ := okK_ok (ρ := ρ) ho
          simp only [hb2, Bool.false_and]
  | .b :: ks, x :: xs, y :: ys, b, s, s', h => by
    cases x <;> try (simp only [eqKM] at h; exact (runs_fail h).elim)
    cases y <;> try (simp only [eqKM] at h; exact (runs_fail h).elim)
    rename_i m n
    simp only [eqKM] at h
    simp only [vals, val, eqK]
    cases hb : (m == n) with
    | true =>
      rw [hb] at h
      simp only [cond_true] at h
      simp only [eqKM_ok h, Bool.true_and]
    | false =>
      rw [hb] at h
      simp only [cond_false] at h
      cases ho : okK ks xs ys with
      | false => rw [ho] at h; exact (runs_fail h).elim
      | true =>
        rw [ho] at h
        obtain ⟨rfl, _⟩ := runs_pure h
        obtain ⟨b2, hb2⟩ := okK_ok (ρ := ρ) ho
        simp only [hb2, Bool.false_and]
  | .s :: ks, x :: xs, y :: ys, b, s, s', h => by
    simp only [eqKM] at h
    obtain ⟨b1, s1, h1, h2⟩ := runs_bind h
    obtain ⟨l, l', hl, hl', he⟩ := eqS_ok h1
    simp only [vals, hl, hl', eqK, he]
    cases b1 with
    | true =>
      simp only [cond_true] at h2
      simp only [eqKM_ok h2, Bool.true_and]
    | false =>
      simp only [cond_false] at h2
      cases ho : okK ks xs ys with
      | false => rw [ho] at h2; exact (runs_fail h2).elim
      | true =>
        rw [ho] at h2
        obtain ⟨rfl, _⟩ := runs_pure h2
        obtain ⟨b2, hb2⟩ := okK_ok (ρ := ρ) ho
        simp only [hb2, Bool.false_and]
  | k :: ks, [], _, b, s, s', h => by cases k <;> (simp only [eqKM] at h; exact (runs_fail h).elim)
  | k :: ks, x :: xs, [], b, s, s', h => by
    cases k <;> cases x <;> (simp only [eqKM] at h; exact (runs_fail h).elim)

end
end Go.Am
