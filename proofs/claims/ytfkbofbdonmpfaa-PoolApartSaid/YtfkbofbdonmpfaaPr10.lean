/- Who has which address, with fixed devices and barred addresses: a bar is written. -/
import Derived.Test.YtfkbofbdonmpfaaPr9
set_option linter.unusedSimpArgs false
set_option linter.unusedVariables false
set_option linter.unusedSectionVars false
set_option linter.unnecessarySimpa false
set_option maxRecDepth 100000
namespace Go.Proofs.Ytfkbofbdonmpfaa.Wb
open Go.Am

theorem nthSet_ok : ∀ (ms : List (V × V × Nat)) (n : Nat) (k w : V), MapOk ms → (∃ a t, k = .a (adV a) ∧ w = .i .i64 t) → MapOk (nthSet ms n k w)
  | [], n, k, w, h, _ => by cases n <;> exact h
  | x :: ms, 0, k, w, h, hk => by
    intro y hy
    simp only [nthSet] at hy
    rcases List.mem_cons.1 hy with rfl | hy
    · exact hk
    · exact h y (List.mem_cons_of_mem _ hy)
  | x :: ms, n + 1, k, w, h, hk => by
    intro y hy
    simp only [nthSet] at hy
    rcases List.mem_cons.1 hy with rfl | hy
    · exact h _ List.mem_cons_self
    · exact nthSet_ok ms n k w (fun z hz => h z (List.mem_cons_of_mem _ hz)) hk y hy

theorem mp_a {h : H} {mb k : Nat} {ms : List (V × V × Nat)} {a t : Int} (hm : h.mem.get mb = some (.mp ms k)) (hok : MapOk ms) {κ : V → H → Prop} (K : ∀ v h' ms' k', h'.mem.get mb = some (.mp ms' k') → MapOk ms' → But h h' (some mb) → κ v h') : pw.mp xx 141 (.m mb) (.a (adV a)) (.i .i64 t) h κ := by
  obtain ⟨res, e1, e2⟩ := find28 a ms 0 hok
  unfold ti28 at e1
  have fin : ∀ ms' k', MapOk ms' → κ undefV ⟨h.next, h.mem.put mb (some (.mp ms' k'))⟩ := fun ms' k' h1 => K _ _ ms' k' get_same h1 ⟨Nat.le_refl _, fun q _ hq => by show (h.mem.put mb _).get q = _; rw [get_other (fun e => hq (by rw [e]))], (gd_write hm).2⟩
  show vhP (muW xx h 141 (.m mb) (.a (adV a)) (.i .i64 t)) κ
  cases res with
  | none =>
    have : muW xx h 141 (.m mb) (.a (adV a)) (.i .i64 t) = some (undefV, ⟨h.next, h.mem.put mb (some (.mp (ms ++ [(.a (adV a), .i .i64 t, k)]) (k + 1)))⟩) := by
      simp only [muW, ti, tt141, tt28, hm, e1, putB]
    rw [this]
    refine fin _ _ fun y hy => ?_
    rcases List.mem_append.1 hy with hy | hy
    · exact hok y hy
    · rw [List.mem_singleton.1 hy]; exact ⟨a, t, rfl, rfl⟩
  | some x =>
    obtain ⟨n, v⟩ := x
    have : muW xx h 141 (.m mb) (.a (adV a)) (.i .i64 t) = some (undefV, ⟨h.next, h.mem.put mb (some (.mp (nthSet ms n (.a (adV a)) (.i .i64 t)) k))⟩) := by
      simp only [muW, ti, tt141, tt28, hm, e1, putB]
    rw [this]
    exact fin _ _ (nthSet_ok ms n _ _ hok ⟨a, t, rfl, rfl⟩)
end Go.Proofs.Ytfkbofbdonmpfaa.Wb
