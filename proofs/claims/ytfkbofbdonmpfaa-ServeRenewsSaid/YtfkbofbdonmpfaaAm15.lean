/- The abstract machine: append. -/
import Derived.Test.YtfkbofbdonmpfaaAm14
import Derived.Laws.NewFold
set_option linter.unusedSimpArgs false
set_option linter.unusedVariables false
set_option linter.unusedSectionVars false
set_option linter.unnecessarySimpa false
namespace Go.Am
open Go.Instr

section
variable {P : Program} {j : Inj} {base : Nat} {h : H} {w : World}

theorem growBy_le (n : Nat) : ∀ (k c : Nat), c ≤ 2 * n + 200 → Builtin.growBy n k c ≤ 2 * n + 200
  | 0, c, h => h
  | k + 1, c, h => by
    unfold Builtin.growBy
    split
    · exact h
    · exact growBy_le n k _ (by omega)

theorem nextslicecap_le (n c : Nat) (h : c < n) : Builtin.nextslicecap n c ≤ 2 * n + 200 := by
  unfold Builtin.nextslicecap
  split
  · omega
  · split
    · omega
    · exact growBy_le n 4 c (by omega)

theorem cap_bound {need sCap bytes : Nat} (h1 : sCap < need) (h2 : need * bytes ≤ 1099511627776) : ¬ Builtin.nextslicecap need sCap * bytes > 2 ^ 48 := by
  have h3 := nextslicecap_le need sCap h1
  have h4 : Builtin.nextslicecap need sCap * bytes ≤ (2 * need + 200) * bytes := Nat.mul_le_mul_right _ h3
  have h5 : (2 * need + 200) * bytes = 2 * (need * bytes) + 200 * bytes := by rw [Nat.add_mul, Nat.mul_assoc]
  have h6 : bytes ≤ need * bytes := Nat.le_mul_of_pos_left _ (by omega)
  omega

def drawnTo (w : World) (n : Nat) : World := { w with drawn := n }

/-- append, its source read as cells: what it comes to. -/
structure AppSrc (P : Program) (w : World) (t' : TypeId) (el : TypeId) (size : Nat) (x' : Value) (n : Nat) (cs' : List Value) : Prop where
  d : ∃ d', P.underlying t' = some d' ∧ ((∀ k, d' ≠ .int k) ∧ (∀ m, (Builtin.lenOf x').run P (drawnTo w m) = .ok n (drawnTo w m)) ∧ (∀ m, (Builtin.firstCells size n x').run P (drawnTo w m) = .ok ⟨cs'⟩ (drawnTo w m)) ∨
    (∃ k, d' = .int k) ∧ ∃ q, x' = .int q n ∧ n ≤ 1099511627776 ∧ (∀ m, (if n * size = 0 then pure #[] else do pure (Builtin.zeroCells (← zeroValue el).cells n) : Sem (Array Value)).run P (drawnTo w m) = .ok ⟨cs'⟩ (drawnTo w m)))

theorem drawn_self (w : World) : drawnTo w w.drawn = w := rfl

theorem app_fits {t t' ty el : TypeId} {ie : TI} (ke : TIok P el ie) (hd : P.underlying t = some (.slice el)) {a0 : Option Addr} {sLen sCap n : Nat} {x' : Value} {cs' : List Value} (S : AppSrc P w t' el ie.sz x' n cs') (hb : n * ie.by_ ≤ 1099511627776) (hle : sLen + n ≤ sCap) :
    (Builtin.append_ #[t, t'] ty #[.slice a0 sLen sCap, x']).run P w = match a0 with
      | none => .ok (.slice none (sLen + n) sCap) w
      | some a => ((storeCells (a.add (sLen * ie.sz)) cs').run P w).andThen fun _ w' => .ok (.slice a0 (sLen + n) sCap) w' := by
  obtain ⟨d', hd', S⟩ := S.d
  rcases S with ⟨hni, hn, hc⟩ | ⟨⟨k, rfl⟩, q, rfl, hn, hc⟩
  · have hn := hn w.drawn
    have hc := hc w.drawn
    rw [drawn_self] at hn hc
    simp only [Builtin.append_, Sem.run_bind, run_underlying hd, run_underlying hd', ke.sizeOf, Result.andThen_ok, List.getElem?_toArray, List.getElem?_cons_zero, List.getElem?_cons_succ, Sem.run_pure, hn]
    cases d' <;> first | (exact absurd rfl (hni _)) | (simp [hle, hc, hn]; cases a0 <;> simp)
  · have hc := hc w.drawn
    rw [drawn_self] at hc
    have hw : IntKind.i64.wrap (n : Int) = n := IntWalk.i64_in _ ⟨by omega, by omega⟩
    have h1 : ¬ ((n : Int) < 0) := by omega
    have h2 : ¬ ((n : Int) * (ke.info.bytes : Int) > 2 ^ 48) := by
      rw [ke.by_eq] at hb
      have : ((n * ke.info.bytes : Nat) : Int) ≤ 1099511627776 := by omega
      rw [Int.natCast_mul] at this
      omega
    simp only [Builtin.append_, Sem.run_bind, run_underlying hd, run_underlying hd', ke.sizeOf, Result.andThen_ok, List.getElem?_toArray, List.getElem?_cons_zero, List.getElem?_cons_succ, Sem.run_pure]
    simp only [if_true, asInt, asIntOf, Sem.run_bind, Sem.run_pure, Result.andThen_ok, hw, h1, if_false, ke.typeInfo, h2, Int.toNat_natCast, hle, Bool.not_true, Bool.false_eq_true, hc]
    cases a0 <;> simp

theorem app_grows {t t' ty el : TypeId} {ie : TI} (ke : TIok P el ie) (hd : P.underlying t = some (.slice el)) {a0 : Option Addr} {sLen sCap n : Nat} {x' : Value} {cs' old' : List Value} (S : AppSrc P w t' el ie.sz x' n cs')
    (hb : (sLen + n) * ie.by_ ≤ 1099511627776) (hm : sLen + n ≤ 1099511627776) (hgt : sCap < sLen + n)
    (ho : ∀ m, (Builtin.firstCells ie.sz sLen (.slice a0 sLen sCap)).run P (drawnTo w m) = .ok ⟨old'⟩ (drawnTo w m)) :
    ∃ cap, sLen + n ≤ cap ∧ (Builtin.append_ #[t, t'] ty #[.slice a0 sLen sCap, x']).run P w =
      .ok (.slice (some ⟨w.heap.size, 0, none⟩) (sLen + n) cap) (push (drawnTo w (w.drawn + 1)) (.cells (⟨old'⟩ ++ ⟨cs'⟩ ++ Builtin.zeroCells ke.z.cells (cap - (sLen + n))) el)) := by
  obtain ⟨d', hd', S⟩ := S.d
  have hnb : n * ie.by_ ≤ 1099511627776 := Nat.le_trans (Nat.mul_le_mul_right _ (by omega)) hb
  have hle : ¬ (sLen + n ≤ sCap) := by omega
  have hcb := cap_bound (bytes := ke.info.bytes) hgt (by rw [← ke.by_eq]; exact hb)
  have hint : ∀ (p : Prop) [Decidable p], ¬ ((((sLen + n : Nat) : Int) > IntKind.i64.max) ∧ p) := by
    intro p _ hh
    rw [IntKind.max_i64] at hh
    omega
  obtain ⟨cap, hcap, hge⟩ : ∃ cap, (choose (.appendCap (sLen + n) sCap el)).run P w = .ok cap (drawnTo w (w.drawn + 1)) ∧ sLen + n ≤ cap := by
    refine ⟨(Question.appendCap (sLen + n) sCap el).cut (w.tape w.drawn (.appendCap (sLen + n) sCap el)), ?_, ?_⟩
    · rw [run_choose_drew]; rfl
    · simp only [Question.cut]; omega
  have hdr : (drawnTo w (w.drawn + 1)) = drawnTo w (w.drawn + 1) := rfl
  refine ⟨cap, hge, ?_⟩
  rcases S with ⟨hni, hn, hc⟩ | ⟨⟨k, rfl⟩, q, rfl, hn, hc⟩
  · have hn := hn w.drawn
    have hc := hc (w.drawn + 1)
    have ho := ho (w.drawn + 1)
    rw [drawn_self] at hn
    have hm : (match d' with | .int _ => true | _ => false) = false := by cases d' <;> first | rfl | exact absurd rfl (hni _)
    simp only [Builtin.append_, Sem.run_bind, run_underlying hd, run_underlying hd', ke.sizeOf, Result.andThen_ok, List.getElem?_toArray, List.getElem?_cons_zero, List.getElem?_cons_succ, Sem.run_pure, hm]
    simp only [Bool.false_eq_true, if_false, hn, Result.andThen_ok, hle, Sem.run_bind, ke.typeInfo, hint, hcb, hcap, run_askRoom, ho, Bool.not_false, if_true, hc, ke.zeroValue, run_newRow', Sem.run_pure]
    rfl
  · have hc := hc (w.drawn + 1)
    have ho := ho (w.drawn + 1)
    have hw : IntKind.i64.wrap (n : Int) = n := IntWalk.i64_in _ ⟨by omega, by omega⟩
    have h1 : ¬ ((n : Int) < 0) := by omega
    have h2 : ¬ ((n : Int) * (ke.info.bytes : Int) > 2 ^ 48) := by
      rw [ke.by_eq] at hnb
      have : ((n * ke.info.bytes : Nat) : Int) ≤ 1099511627776 := by omega
      rw [Int.natCast_mul] at this
      omega
    simp only [Builtin.append_, Sem.run_bind, run_underlying hd, run_underlying hd', ke.sizeOf, Result.andThen_ok, List.getElem?_toArray, List.getElem?_cons_zero, List.getElem?_cons_succ, Sem.run_pure]
    simp only [if_true, asInt, asIntOf, Sem.run_bind, Sem.run_pure, Result.andThen_ok, hw, h1, if_false, ke.typeInfo, h2, Int.toNat_natCast, hle, Bool.not_true, Bool.false_eq_true, hint, hcb, hcap, run_askRoom, ho, hc, ke.zeroValue, run_newRow']
    rfl

end
end Go.Am
