/- A memory that is known but for its blocks' numbers: the steps of a walk. -/
import Derived.Test.YtpegimipbigmbaaGreatDoorM7
import Derived.Test.YtpegimipbigmbaaGreatDoorM6
import Derived.Test.YtpegimipbigmbaaGreatDoorM9
import Derived.KernelRfl
import Derived.JoinedOf
import GoSem.ClaimGoes
set_option linter.unusedSimpArgs false
set_option linter.unusedVariables false
set_option linter.unusedSectionVars false
set_option linter.unnecessarySimpa false
namespace Go.Am
theorem blt_up {a b : Nat} (h : a < b) : Nat.blt a b = true := by rw [Nat.blt_eq]; exact h
theorem blt_dn {a b : Nat} (h : Nat.blt a b = true) : a < b := by rw [Nat.blt_eq] at h; exact h
section
variable {P : Program} {n : Nat} {f : FuncId} {args args' : List V} {v v' : V} {h h' t g g' : H} {j : Nat → Nat} {K : V → H → Prop}
theorem ok_rn (J : Jn j) (M : MRn j h g) (e : sem (mkX P) 100000 n f args h = some (v, h')) (ha : args.map (rn j) = args') (hv : rn j v = v') (hk : ∀ g', Bd g' → RFr j h g h' g' → (Bd h → Bd h') → K v' g') : Ok P n f args' g K := by
 subst ha hv
 intro hbd
 obtain ⟨g', e2, F⟩ := sem_rn J (zrn J P) 100000 n f args _ _ _ g e M
 have hg := gd_sem (P := P) 100000 n f _ g _ _ e2
 exact ⟨_, g', e2, hg.2 hbd, hg.1, hk g' (hg.2 hbd) F (gd_sem (P := P) 100000 n f _ h _ _ e).2⟩
theorem MRn.sub (M : MRn j h g) (S : Sub t h) : MRn j t g := ⟨fun k => by rw [← S.1]; exact M.nx k, fun r b hb => M.mem r b (S.2 r b hb)⟩
structure Own (j : Nat → Nat) (h g : H) (q : Nat) (b : B) : Prop where
 ex : ∃ r, j r = q ∧ r < h.next ∧ h.mem.get r = none
 mem : g.mem.get q = some b
theorem Own.call (J : Jn j) {q : Nat} {b : B} (o : Own j h g q b) (M : MRn j h g) (F : RFr j h g h' g') : Own j h' g' q b := by
 obtain ⟨⟨r, rfl, h1, h2⟩, h3⟩ := o
 have hq : j r < g.next := by
  have := MRn.lt J M r
  rw [blt_up h1] at this
  exact blt_dn this
 exact ⟨⟨r, rfl, Nat.lt_of_lt_of_le h1 F.le, F.no r h1 h2⟩, by rw [F.keep _ hq fun r' e => by rw [J.inj e]; exact h2]; exact h3⟩
theorem Own.sub {q : Nat} {b : B} (o : Own j h g q b) (S : Sub t h) : Own j t g q b := by
 obtain ⟨⟨r, h1, h2, h3⟩, h4⟩ := o
 refine ⟨⟨r, h1, by rw [← S.1]; exact h2, ?_⟩, h4⟩
 cases e : t.mem.get r with
 | none => rfl
 | some c => rw [S.2 r c e] at h3; cases h3
theorem Own.lt (J : Jn j) {q : Nat} {b : B} (o : Own j h g q b) (M : MRn j h g) : q < g.next := by
 obtain ⟨⟨r, rfl, h1, _⟩, _⟩ := o
 have := MRn.lt J M r
 rw [blt_up h1] at this
 exact blt_dn this
theorem al_m {x : X} {ty sz : Nat} {i : TI} {w : V} {cs : List V} {κ : V → H → Prop} (ht : x.tt.get ty = some i) (hz : i.zero.length = sz) (hc : cellsOfV w = cs) (hl : cs.length = sz) (h1 : cs.all oneV = true)
  (J : Jn j) (M : MRn j h g) (hb : Bd h) (hg : Bd g)
  (K : ∀ r g', Bd g' → MRn j ⟨h.next + 1, h.mem⟩ g' → Own j ⟨h.next + 1, h.mem⟩ g' r (.c cs ty true) → (∀ q b, Own j h g q b → Own j ⟨h.next + 1, h.mem⟩ g' q b) → κ (.p r 0) g') :
  pw.al x ty g fun v g1 => pw.sn sz v w g1 fun g2 => κ v g2 := by
 show oP (x.tt.get ty) _
 rw [ht]
 show pw.sn sz (.p g.next 0) w ⟨g.next + 1, g.mem.put g.next (some (.c i.zero ty true))⟩ _
 have hn : h.mem.get h.next = none := by
  cases e : h.mem.get h.next with
  | none => rfl
  | some b => have := hb _ _ e; omega
 rw [sn_p]
 have e0 : (g.mem.put g.next (some (.c i.zero ty true))).get g.next = some (.c i.zero ty true) := by rw [T.get_put, if_pos rfl]
 show cellB (((g.mem.put g.next (some (.c i.zero ty true)))).get g.next) _
 rw [e0, cellB_some]
 subst hc
 refine ⟨rfl, hl, h1, by omega, ?_⟩
 have ec : List.take 0 i.zero ++ cellsOfV w ++ List.drop (0 + sz) i.zero = cellsOfV w := by
  rw [List.take_zero, List.nil_append, List.drop_of_length_le (by omega), List.append_nil]
 rw [ec]
 have other : ∀ q, q ≠ g.next → ((g.mem.put g.next (some (.c i.zero ty true))).put g.next (some (.c (cellsOfV w) ty true))).get q = g.mem.get q := fun q hq => by
  rw [T.get_put, if_neg (Ne.symm hq), T.get_put, if_neg (Ne.symm hq)]
 have own : ((g.mem.put g.next (some (.c i.zero ty true))).put g.next (some (.c (cellsOfV w) ty true))).get g.next = some (.c (cellsOfV w) ty true) := by rw [T.get_put, if_pos rfl]
 have hj : j h.next = g.next := M.next
 refine K g.next ⟨g.next + 1, _⟩ (fun r b hr => ?_) ⟨fun k => ?_, fun r b hr => ?_⟩ ⟨⟨h.next, hj, Nat.lt_succ_self _, hn⟩, own⟩ fun q b o => ⟨?_, ?_⟩
 ·by_cases hq : r = g.next
  ·subst hq; exact Nat.lt_succ_self _
  ·have hr : ((g.mem.put g.next (some (.c i.zero ty true))).put g.next (some (.c (cellsOfV w) ty true))).get r = some b := hr
   rw [other r hq] at hr
   exact Nat.lt_succ_of_lt (hg _ _ hr)
 ·have := M.nx (1 + k)
  show j (h.next + 1 + k) = g.next + 1 + k
  rw [Nat.add_assoc, Nat.add_assoc]
  exact this
 ·show ((g.mem.put g.next (some (.c i.zero ty true))).put g.next (some (.c (cellsOfV w) ty true))).get (j r) = _
  rw [other _ fun e => ?_]
  ·exact M.mem r b hr
  ·have : r = h.next := J.inj (by rw [e, hj])
   subst this
   have hr : h.mem.get h.next = some b := hr
   rw [hn] at hr
   cases hr
 ·obtain ⟨r, h1, h2, h3⟩ := o.ex
  exact ⟨r, h1, Nat.lt_succ_of_lt h2, h3⟩
 ·show ((g.mem.put g.next (some (.c i.zero ty true))).put g.next (some (.c (cellsOfV w) ty true))).get q = _
  rw [other q (Nat.ne_of_lt (o.lt J M))]
  exact o.mem
end
theorem Chain.zero {call : FuncId → List V → H → Option (V × H)} {f : FuncId} {args : List V} {v : V} {r : List Cl} {h h' : H} (c : Chain call (⟨0, f, args, v⟩ :: r) h h') : ∃ h1, call f args h = some (v, h1) ∧ Chain call r h1 h' := c
theorem Chain.one {call : FuncId → List V → H → Option (V × H)} {f : FuncId} {args : List V} {v : V} {r : List Cl} {h h' : H} (c : Chain call (⟨1, f, args, v⟩ :: r) h h') : ∃ h1, call f args ⟨h.next + 1, h.mem⟩ = some (v, h1) ∧ Chain call r h1 h' := c
theorem layB_in : ∀ {l : List (Nat × B)} {r : Nat} {b : B}, (l.map Prod.fst).Nodup → (r, b) ∈ l → (layB l).get r = some b
 | (q, c) :: l, r, b, hn, hm => by
  simp only [List.map_cons, List.nodup_cons] at hn
  simp only [layB, T.get_put]
  rcases List.mem_cons.1 hm with e | hm
  ·cases e; rw [if_pos rfl]
  ·rw [if_neg, layB_in hn.2 hm]
   rintro rfl
   exact hn.1 (List.mem_map.2 ⟨_, hm, rfl⟩)
theorem layB_no {l : List (Nat × B)} {r : Nat} (h : r ∉ l.map Prod.fst) : (layB l).get r = none := by
 cases e : (layB l).get r with
 | none => rfl
 | some b => exact absurd (List.mem_map.2 ⟨_, layB_get e, rfl⟩) h
structure Kn (j : Nat → Nat) (N : Nat) (l : List (Nat × B)) (g : H) : Prop where
 J : Jn j
 nx : ∀ k, j (N + k) = g.next + k
 mem : ∀ r b, (r, b) ∈ l → g.mem.get (j r) = some (rnB j b)
section
variable {j : Nat → Nat} {N M : Nat} {l a : List (Nat × B)} {h h' g g' : H}
theorem Kn.m (k : Kn j N l g) : MRn j (Mt.h ⟨N, l⟩) g := ⟨k.nx, fun r b hb => k.mem r b (layB_get hb)⟩
theorem Kn.sub (k : Kn j N l g) (s : ∀ p ∈ a, p ∈ l) : Kn j N a g := ⟨k.J, k.nx, fun r b hb => k.mem r b (s _ hb)⟩
theorem Kn.of (J : Jn j) (m : MRn j h g) (s : Sub (Mt.h ⟨N, l⟩) h) (hn : (l.map Prod.fst).Nodup) : Kn j N l g :=
 ⟨J, (m.sub s).nx, fun r b hb => m.mem r b (s.2 r b (layB_in hn hb))⟩
theorem bd_lay (h : ∀ p ∈ l, p.1 < N) : Bd (Mt.h ⟨N, l⟩) := fun _ _ e => h _ (layB_get e)
theorem Kn.back {a' R : List (Nat × B)} {N' : Nat} (k : Kn j N l g) (F : RFr j (Mt.h ⟨N, a⟩) g h' g') (s : Sub (Mt.h ⟨N', a'⟩) h') (hn : (a'.map Prod.fst).Nodup) (hR : ∀ p ∈ R, p ∈ l ∧ p.1 ∉ a.map Prod.fst)
  (h1 : ∀ p ∈ a' ++ R, p.1 < N ∧ belB N p.2 = true) (hN : 16 ≤ N) : Kn (jN j N g'.next) N (a' ++ R) g' := by
 have lt : ∀ r, r < N → j r < g.next := fun r hr => by
  have := MRn.lt k.J k.m r
  rw [show (Mt.h ⟨N, l⟩).next = N from rfl, blt_up hr] at this
  exact blt_dn this
 have le := F.le'
 refine ⟨⟨fun {a b} hab => ?_, fun {r} hr => ?_⟩, fun m => jN_ge m, fun r b hb => ?_⟩
 ·by_cases ha : a < N
  ·by_cases hb : b < N
   ·rw [jN_lt ha, jN_lt hb] at hab
    exact k.J.inj hab
   ·rw [jN_lt ha] at hab
    unfold jN at hab
    rw [if_neg hb] at hab
    have := lt a ha
    omega
  ·by_cases hb : b < N
   ·rw [jN_lt hb] at hab
    unfold jN at hab
    rw [if_neg ha] at hab
    have := lt b hb
    omega
   ·unfold jN at hab
    rw [if_neg ha, if_neg hb] at hab
    omega
 ·rw [jN_lt (by omega)]
  exact k.J.fix hr
 ·obtain ⟨hr, hbl⟩ := h1 _ hb
  rw [jN_lt hr, rnB_congr (fun q hq => jN_lt hq) b hbl]
  rcases List.mem_append.1 hb with hb | hb
  ·exact F.m.mem r b (s.2 r b (layB_in hn hb))
  ·obtain ⟨h2, h3⟩ := hR _ hb
   rw [F.keep _ (lt r hr) fun q e => by rw [k.J.inj e]; exact layB_no h3]
   exact k.mem r b h2
end
def jE (G r : Nat) : Nat := if r < 16 then r else G + (r - 16)
theorem kn_nil {g : H} (h : 16 ≤ g.next) : Kn (jE g.next) 16 [] g := by
 refine ⟨⟨fun {a b} hab => ?_, fun {r} hr => if_pos hr⟩, fun k => ?_, fun r b hb => absurd hb List.not_mem_nil⟩
 ·unfold jE at hab
  by_cases ha : a < 16 <;> by_cases hb : b < 16 <;> simp only [ha, hb, if_true, if_false] at hab <;> omega
 ·unfold jE
  rw [if_neg (by omega)]
  omega
end Go.Am
namespace Go.Am
noncomputable def closB (P : Program) (F : T Func) : Nat → List FuncId → Nat → List FuncId → List FuncId
 | 0, _, _, seen => seen.reverse
 | _ + 1, [], _, seen => seen.reverse
 | n + 1, f :: todo, m, seen => bif Nat.testBit m f then closB P F n todo m seen else closB P F n ((F.get f).elim [] P.leadsTo ++ todo) (m ||| 2 ^ f) (f :: seen)
section
variable {P : Program} {a : T TI} {F : T Func} {ml : Option Nat}
theorem closB_eq (hx : mkX P = { tt := a, ft := F, ml := ml }) : ∀ (n : Nat) (todo : List FuncId) (m : Nat) (seen : List FuncId), (∀ x, seen.contains x = m.testBit x) → P.closureVia n todo seen = closB P F n todo m seen
 | 0, _, _, _, _ => by rw [Program.closureVia, closB]
 | _ + 1, [], _, _, _ => by rw [Program.closureVia, closB]; simp
 | n + 1, f :: todo, m, seen, h => by
  rw [Program.closureVia, closB, h f]
  cases e : m.testBit f with
  | true => rw [if_pos rfl, cond_true]; exact closB_eq hx n todo m seen h
  | false =>
   rw [if_neg (by simp), cond_false, funcs_at hx]
   refine closB_eq hx n _ _ _ fun x => ?_
   rw [Nat.testBit_or, Nat.testBit_two_pow, List.contains_cons, h x, Bool.or_comm]
   congr 1
   by_cases hx : x = f
   ·subst hx; simp
   ·have hx' : ¬ f = x := fun e => hx e.symm
    simp [hx, hx']
theorem closure_eq (hx : mkX P = { tt := a, ft := F, ml := ml }) {f k : Nat} {l : List FuncId} (hk : 1 + (P.funcs.toList.map fun g => (P.leadsTo g).length + 1).sum = k) (h : closB P F k [f] 0 [] = l) : P.closure f = l := by
 unfold Program.closure
 rw [hk, closB_eq hx k [f] 0 [] (fun x => by simp), h]
theorem inPlace_eq (hx : mkX P = { tt := a, ft := F, ml := ml }) {f : Nat} {l : List FuncId} {s : List String} (hl : P.closure f = l)
  (h : (s == l.filterMap fun g => (F.get g).bind fun fn => if fn.ours || fn.body.isNone || fn.name == "runtime.NumGoroutine" then some fn.name else none) = true) : (s == P.inPlace f) = true := by
 unfold Program.inPlace
 simp only [hl, funcs_at hx]
 exact h
theorem unfollowed_eq (hx : mkX P = { tt := a, ft := F, ml := ml }) {f : Nat} {l : List FuncId} (hl : P.closure f = l)
  (h : (l.any fun g => (F.get g).any fun fn => match fn.body with | some c => c.unfollowed | none => entryCalls fn) = true) : P.unfollowed f = true := by
 unfold Program.unfollowed
 simp only [hl, funcs_at hx]
 exact h
theorem recurses_of {f : Nat} (h : P.unfollowed f = true) : P.recurses f = true := by
 unfold Program.recurses
 rw [h, Bool.true_or]
theorem varsNamed_eq (hx : mkX P = { tt := a, ft := F, ml := ml }) {f : Nat} {l : List FuncId} {s : List String} (hl : P.closure f = l)
  (h : (s == ((((l.flatMap fun g => ((F.get g).bind (·.body)).elim [] Code.globalsNamed).eraseDups).filterMap (fun g => (P.globals[g]?).map (·.name)) ++
  l.filterMap fun g => (F.get g).bind fun fn => if fn.body.isNone then entryReads.lookup fn.name else none).eraseDups)) = true) : (s == P.varsNamed f) = true := by
 unfold Program.varsNamed
 simp only [hl, funcs_at hx]
 exact h
theorem funcNamed_eq (hx : mkX P = { tt := a, ft := F, ml := ml }) {M f : Nat} {s : String} (hM : P.funcs.size = M) (h : ((List.range M).filter fun i => (F.get i).any (·.name == s)) = [f]) : P.funcNamed s = some f := by
 unfold Program.funcNamed
 simp only [hM, funcs_at hx, h]
end
theorem goes_none {P : Program} (h : P.funcs.any Func.goes = false) (f : FuncId) : P.goes f = false := by
 unfold Program.goes
 rw [h, Bool.and_false, Bool.or_false, List.any_eq_false]
 intro g _ hg
 cases e : P.funcs[g]? with
 | none => rw [e] at hg; cases hg
 | some fn =>
  rw [e] at hg
  have : P.funcs.any Func.goes = true := Array.any_eq_true.2 (by
   obtain ⟨hi, rfl⟩ := Array.getElem?_eq_some_iff.1 e
   exact ⟨g, hi, hg⟩)
  rw [h] at this
  cases this
theorem goesBy_none {P : Program} {c : OpenClaim} (h : P.funcs.any Func.goes = false) (hs : c.start = .entering) : false = c.goesBy P := by
 unfold OpenClaim.goesBy Program.goesAt Program.goesFrom
 rw [hs]
 cases P.funcNamed c.func with
 | none => rfl
 | some f => simp [goes_none h f]
end Go.Am
