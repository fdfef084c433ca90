/- The abstract machine: code, calls. -/
import Derived.Test.YtfkbofbdonmpfaaAm26
import Derived.LoopN
set_option linter.unusedSimpArgs false
set_option linter.unusedVariables false
set_option linter.unusedSectionVars false
set_option linter.unnecessarySimpa false
namespace Go.Am
open Go.Instr

def toExit : Ex → Exit
  | .n => .normal
  | .x id => .exit id
  | .r => .ret

section
variable {P : Program} {base : Nat} {call : FuncId → List V → H → Option (V × H)}

/-- What is to hold behind some code. -/
def Behind (P : Program) (base : Nat) (j : Inj) (h : H) (w : World) (a : Act) (e' : Env) (h' : H) (K : Act → World → Prop) : Prop :=
  ∀ j' a' w', Step P base j h w j' h' w' → ERel j' e' a'.tmps → a'.tmps.size = a.tmps.size → a'.defers = a.defers → K a' w'

def CodeSim (P : Program) (base nt : Nat) (f : Env → H → Option (Ex × Env × H)) (c : Code) : Prop :=
  ∀ {x : Ex} {e e' : Env} {h h' : H} {j : Inj} {a : Act} {w : World} {Q : Exit → Act → World → Prop}, f e h = some (x, e', h') → HRel P base j h w → ERel j e a.tmps → nt ≤ a.tmps.size → Fresh j h.next h'.next →
    Behind P base j h w a e' h' (Q (toExit x)) → c.wp P Q a w

theorem Behind.pass {j j1 : Inj} {h h1 h' : H} {w w1 : World} {a a1 : Act} {e' : Env} {K : Act → World → Prop} (B : Behind P base j h w a e' h' K) (S : Step P base j h w j1 h1 w1)
    (hs : a1.tmps.size = a.tmps.size) (hd : a1.defers = a.defers) : Behind P base j1 h1 w1 a1 e' h' K :=
  fun j' a' w' s er es ed => B j' a' w' (S.trans s) er (es.trans hs) (ed.trans hd)

theorem loop_sim {nt : Nat} {f : Env → H → Option (Ex × Env × H)} {c : Code} (hf : CodeSim P base nt f c) (hg : ∀ {e e' h h' x}, f e h = some (x, e', h') → Gd h h') :
    ∀ (k : Nat) {x : Ex} {e e' : Env} {h h' : H} {j : Inj} {a : Act} {w : World} {Q : Exit → Act → World → Prop}, loopN f k e h = some (x, e', h') → HRel P base j h w → ERel j e a.tmps → nt ≤ a.tmps.size → Fresh j h.next h'.next →
      Behind P base j h w a e' h' (Q (toExit x)) → x ≠ .n → Code.rounds P c Q k a w
  | 0, x, e, e', h, h', j, a, w, Q, hh, R, he, hn, F, B, hx => by cases hh
  | k + 1, x, e, e', h, h', j, a, w, Q, hh, R, he, hn, F, B, hx => by
    simp only [loopN] at hh
    rw [rounds_succ]
    split at hh
    · rename_i e1 h1 hb
      have m : Gd h1 h' := gd_loopN hg k hh
      refine hf hb R he hn (F.sub (Nat.le_refl _) m.1) fun j' a' w' s er es ed => ?_
      exact loop_sim hf hg k hh s.rel er (by omega) (s.fresh F) (B.pass s es ed) hx
    · rename_i id e1 h1 hb
      simp only [Option.some.injEq, Prod.mk.injEq] at hh
      obtain ⟨rfl, rfl, rfl⟩ := hh
      exact hf hb R he hn F B
    · rename_i e1 h1 hb
      simp only [Option.some.injEq, Prod.mk.injEq] at hh
      obtain ⟨rfl, rfl, rfl⟩ := hh
      exact hf hb R he hn F B
    · cases hh

theorem loopN_not {f : Env → H → Option (Ex × Env × H)} : ∀ (k : Nat) {x : Ex} {e e' : Env} {h h' : H}, loopN f k e h = some (x, e', h') → x ≠ .n
  | 0, x, e, e', h, h', hh => by cases hh
  | k + 1, x, e, e', h, h', hh => by
    simp only [loopN] at hh
    split at hh
    · exact loopN_not k hh
    · cases hh; simp
    · cases hh; simp
    · cases hh

theorem code_sim (C : CallSim P base call) (G : CallGd call) (k nt : Nat) : ∀ c : Code, codeOk (mkX P) nt c = true → CodeSim P base nt (code (mkX P) call k c) c
  | .skip, _, x, e, e', h, h', j, a, w, Q, hh, R, he, hn, F, B => by
    simp only [code, Option.some.injEq, Prod.mk.injEq] at hh
    obtain ⟨rfl, rfl, rfl⟩ := hh
    exact wp_skip (B j a w (Step.refl R) he rfl rfl)
  | .exit id, _, x, e, e', h, h', j, a, w, Q, hh, R, he, hn, F, B => by
    simp only [code, Option.some.injEq, Prod.mk.injEq] at hh
    obtain ⟨rfl, rfl, rfl⟩ := hh
    exact wp_exit (B j a w (Step.refl R) he rfl rfl)
  | .ret, _, x, e, e', h, h', j, a, w, Q, hh, R, he, hn, F, B => by
    simp only [code, Option.some.injEq, Prod.mk.injEq] at hh
    obtain ⟨rfl, rfl, rfl⟩ := hh
    exact wp_ret (B j a w (Step.refl R) he rfl rfl)
  | .region id ops d, ok, x, e, e', h, h', j, a, w, Q, hh, R, he, hn, F, B => by
    simp only [code] at hh
    simp only [codeOk] at ok
    have hx : x = .n := (region_sim (id := id) (Q := fun _ _ _ => True) C G ok hh R he hn F (fun _ _ _ _ _ _ _ => trivial)).1
    subst hx
    exact (region_sim C G ok hh R he hn F B).2
  | .seq c d, ok, x, e, e', h, h', j, a, w, Q, hh, R, he, hn, F, B => by
    simp only [code] at hh
    simp only [codeOk, Bool.and_eq_true] at ok
    refine wp_seq ?_
    split at hh
    · rename_i e1 h1 hc
      have m : Gd h1 h' := gd_code G k d hh
      refine code_sim C G k nt c ok.1 hc R he hn (F.sub (Nat.le_refl _) m.1) fun j' a' w' s er es ed => ?_
      exact code_sim C G k nt d ok.2 hh s.rel er (by omega) (s.fresh F) (B.pass s es ed)
    · rename_i id e1 h1 hc
      simp only [Option.some.injEq, Prod.mk.injEq] at hh
      obtain ⟨rfl, rfl, rfl⟩ := hh
      exact code_sim C G k nt c ok.1 hc R he hn F B
    · rename_i e1 h1 hc
      simp only [Option.some.injEq, Prod.mk.injEq] at hh
      obtain ⟨rfl, rfl, rfl⟩ := hh
      exact code_sim C G k nt c ok.1 hc R he hn F B
    · cases hh
  | .cond t c d, ok, x, e, e', h, h', j, a, w, Q, hh, R, he, hn, F, B => by
    simp only [code] at hh
    simp only [codeOk, Bool.and_eq_true] at ok
    have ht := ev_rel he t ok.1.1
    split at hh
    · rename_i hv
      rw [hv] at ht
      exact wp_cond_true (inv_b ht) (code_sim C G k nt c ok.1.2 hh R he hn F B)
    · rename_i hv
      rw [hv] at ht
      exact wp_cond_false (inv_b ht) (code_sim C G k nt d ok.2 hh R he hn F B)
    · cases hh
  | .block id c, ok, x, e, e', h, h', j, a, w, Q, hh, R, he, hn, F, B => by
    simp only [code] at hh
    simp only [codeOk] at ok
    refine wp_block ?_
    split at hh
    · rename_i e1 h1 hc
      simp only [Option.some.injEq, Prod.mk.injEq] at hh
      obtain ⟨rfl, rfl, rfl⟩ := hh
      exact code_sim C G k nt c ok hc R he hn F B
    · rename_i id' e1 h1 hc
      cases hb : Nat.beq id' id with
      | true =>
        rw [hb] at hh
        simp only [cond_true, Option.some.injEq, Prod.mk.injEq] at hh
        obtain ⟨rfl, rfl, rfl⟩ := hh
        refine code_sim C G k nt c ok hc R he hn F fun j' a' w' s er es ed => ?_
        simp only [toExit, Exit.inBlock]
        rw [if_pos (Nat.eq_of_beq_eq_true hb)]
        exact B j' a' w' s er es ed
      | false =>
        rw [hb] at hh
        simp only [cond_false, Option.some.injEq, Prod.mk.injEq] at hh
        obtain ⟨rfl, rfl, rfl⟩ := hh
        refine code_sim C G k nt c ok hc R he hn F fun j' a' w' s er es ed => ?_
        simp only [toExit, Exit.inBlock]
        rw [if_neg (Nat.ne_of_beq_eq_false hb)]
        exact B j' a' w' s er es ed
    · rename_i e1 h1 hc
      simp only [Option.some.injEq, Prod.mk.injEq] at hh
      obtain ⟨rfl, rfl, rfl⟩ := hh
      exact code_sim C G k nt c ok hc R he hn F B
    · cases hh
  | .loop c, ok, x, e, e', h, h', j, a, w, Q, hh, R, he, hn, F, B => by
    simp only [code] at hh
    simp only [codeOk] at ok
    exact wp_loop_rounds k (loop_sim (code_sim C G k nt c ok) (gd_code G k c) k hh R he hn F B (loopN_not k hh))
  | .goto _, ok, _, _, _, _, _, _, _, _, _, _, _, _, _, _, _ => by cases ok
  | .label _, ok, _, _, _, _, _, _, _, _, _, _, _, _, _, _, _ => by cases ok
  | .scope _, ok, _, _, _, _, _, _, _, _, _, _, _, _, _, _, _ => by cases ok
  | .refuse _, ok, _, _, _, _, _, _, _, _, _, _, _, _, _, _, _ => by cases ok

end
end Go.Am
