/- The parser's trees: what the program reads. -/
import Derived.Test.YtbkhielalbbopaaGreatDoorZq3
set_option linter.unusedSimpArgs false
set_option linter.unusedVariables false
set_option linter.unusedSectionVars false
set_option linter.unnecessarySimpa false
set_option maxRecDepth 100000
namespace Go.Proofs.YtbkhielalbbopaaGreatDoor.Wb
open Go Go.Am Go.Am.Xm

theorem mm_i {k : IntKind} {m n : Int} {κ : V → Prop} : pw.mm false (.i k m) (.i k n) κ = κ (.i k (max m n)) := by
  simp only [pw, cond_false, maxP, oP]
  congr 2
  by_cases h : m < n
  · rw [if_pos h]; omega
  · rw [if_neg h]; omega

/-- One read; the first of what comes behind must stand behind it. -/
theorem ck_1 {ps : List Nat} {en : T B} {h : H} {r : RecW} {i : Nat} {g : H} {hs : List (Nat × H)} {κ : Prop} (hp : (ps.getD i 0).testBit r.ix = true) (h0 : againW en r h = true) (hr : ∀ p ∈ hs, againW en r p.2 = true) (hk : κ) : pw.ck ps en h (r :: []) ((i, g) :: hs) κ := by
  refine ⟨?_, hk⟩
  simp only [List.all_cons, List.all_nil, Bool.and_true]
  unfold standsW
  rw [hp, cond_true, Bool.true_and]
  exact standsW_t h0 hs _ hr

theorem p58 : (((prdW (wL (wR (wR (wL (wR (wL (wL (wL (wR (wR (wR (wR (bdyW Tryz.f41))))))))))))))).getD 7 0).testBit 1 = true := by kernel_rfl
theorem p32 : (((prdW (wL (wR (wR (wR (wR (wR (wL (wR (wR (wR (wL (wR (wL (wL (wL (wR (wR (wR (wR (bdyW Tryz.f41)))))))))))))))))))))).getD 9 0).testBit 1 = true := by kernel_rfl

/-- The tree that is being read: its name, its text, its kids; r: the parser; rv: where it will be laid. -/
structure Trl (hS h : H) (r tv rv : Nat) (nm tx : Bs) (ks : List XT) : Prop where
  f : But hS h (some r)
  rS : r < hS.next
  tv0 : hS.next ≤ tv
  rv0 : hS.next ≤ rv
  tv1 : tv < h.next
  rv1 : rv < h.next
  ne : tv ≠ rv
  rb : ∃ cs, h.mem.get rv = some (.c cs 63 true) ∧ cs.length = 3
  k : ∃ kv es, h.mem.get tv = some (.c [.s nm, .s tx, kv] 63 true) ∧ VecE h kv 63 3 encT es ∧ (∀ q, vblk kv = some q → hS.next ≤ q ∧ q < h.next ∧ q ≠ tv ∧ q ≠ rv) ∧ TrsA h (fun q => hS.next ≤ q ∧ q ≠ tv ∧ q ≠ rv ∧ vblk kv ≠ some q) ks es

theorem Trl.keep {hS h h' : H} {r tv rv : Nat} {nm tx : Bs} {ks : List XT} (T : Trl hS h r tv rv nm tx ks) (f : But h h' (some r)) : Trl hS h' r tv rv nm tx ks := by
  obtain ⟨f0, rS, a1, a2, a3, a4, ne, ⟨cs, b1, b2⟩, kv, es, c1, c2, c3, c4⟩ := T
  have n1 : some tv ≠ some r := fun e => by cases e; omega
  have n2 : some rv ≠ some r := fun e => by cases e; omega
  refine ⟨f0.trans f, rS, a1, a2, Nat.lt_of_lt_of_le a3 f.1, Nat.lt_of_lt_of_le a4 f.1, ne, ⟨cs, f.get a4 n2 b1, b2⟩, kv, es, f.get a3 n1 c1, c2.keep (fun q hq => (c3 q hq).2.1) f (.inl fun e => ?_), fun q hq => ?_, c4.keep ⟨f.1, fun q hq hN => f.2.1 q hq fun e => ?_⟩ fun q _ h => h⟩
  · have := (c3 r e).1; omega
  · have := c3 q hq
    exact ⟨this.1, Nat.lt_of_lt_of_le this.2.1 f.1, this.2.2⟩
  · cases e; have := hN.1; omega
/-- Its text grows. -/
theorem Trl.text {hS h : H} {r tv rv : Nat} {nm tx : Bs} {ks : List XT} (T : Trl hS h r tv rv nm tx ks) (tx' : Bs) {κ : H → Prop} (k : ∀ h', But h h' (some tv) → Trl hS h' r tv rv nm tx' ks → κ h') : pw.s1 (.p tv 1) (.s tx') h κ := by
  obtain ⟨f0, rS, a1, a2, a3, a4, ne, ⟨cs, b1, b2⟩, kv, es, c1, c2, c3, c4⟩ := T
  refine s1_a c1 (by simp) rfl fun h1 hg f => k h1 f ?_
  have n2 : some rv ≠ some tv := fun e => by cases e; exact ne rfl
  refine ⟨f0.over f (.inr fun z e => by cases e; exact a1), rS, a1, a2, Nat.lt_of_lt_of_le a3 f.1, Nat.lt_of_lt_of_le a4 f.1, ne, ⟨cs, f.get a4 n2 b1, b2⟩, kv, es, hg, c2.keep (fun q hq => (c3 q hq).2.1) f (.inl fun e => (c3 tv e).2.2.1 rfl), fun q hq => ?_, c4.keep ⟨f.1, fun q hq hN => f.2.1 q hq fun e => ?_⟩ fun q _ h => h⟩
  · have := c3 q hq
    exact ⟨this.1, Nat.lt_of_lt_of_le this.2.1 f.1, this.2.2⟩
  · cases e; exact hN.2.1 rfl

/-- The end: the tree is laid and told. -/
theorem Trl.fin {hS h : H} {r tv rv : Nat} {nm tx : Bs} {ks : List XT} (T : Trl hS h r tv rv nm tx ks) {p : PS} {d : Int} (P : Prs h r p.1 p.2 d) {K : V → H → Prop}
    (k : ∀ h' e, Prs h' r p.1 p.2 d → But hS h' (some r) → TrA h' (fun q => hS.next ≤ q) (.node nm tx ks) e → K (.a (encT e)) h') :
    pw.ln 3 (.p tv 0) h fun v29 => pw.sn 3 (.p rv 0) v29 h fun h30 => pw.ln 3 (.p rv 0) h30 fun v31 => Bd h30 → K v31 h30 := by
  obtain ⟨f0, rS, a1, a2, a3, a4, ne, ⟨cs, b1, b2⟩, kv, es, c1, c2, c3, c4⟩ := T
  have hkv : oneV kv = true := by
    obtain ⟨_, ⟨rfl, _⟩ | ⟨_, _, _, _, rfl, _⟩⟩ := c2 <;> rfl
  rw [ln_w (sz := 3) c1 rfl]
  refine sn_w b1 (cs := [.s nm, .s tx, kv]) rfl rfl b2 (by show (true && (true && (oneV kv && true))) = true; rw [hkv]; rfl) fun h1 hg f => ?_
  rw [ln_w (sz := 3) hg rfl]
  intro _
  have nr : r < h.next := Nat.lt_of_lt_of_le rS f0.1
  refine k h1 (nm, tx, kv) (P.keep f nr (fun e => by cases e; omega)) (f0.over f (.inr fun z e => by cases e; exact a2)) ⟨rfl, rfl, es, c2.keep (fun q hq => (c3 q hq).2.1) f (.inl fun e => (c3 rv e).2.2.2 rfl), fun q hq => ⟨(c3 q hq).1, Nat.lt_of_lt_of_le (c3 q hq).2.1 f.1⟩, c4.keep ⟨f.1, fun q hq hN => f.2.1 q hq fun e => ?_⟩ fun q _ h => h.1⟩
  cases e; exact hN.2.2.1 rfl
end Go.Proofs.YtbkhielalbbopaaGreatDoor.Wb
