/- The parser: plain signs are clean. -/
import Derived.Test.YtbkhielalbbopaaGreatDoorZq1
import Derived.Test.YtbkhielalbbopaaGreatDoorZs9
set_option linter.unusedSimpArgs false
set_option linter.unusedVariables false
set_option linter.unusedSectionVars false
set_option linter.unnecessarySimpa false
set_option maxRecDepth 100000
namespace Go.Proofs.YtbkhielalbbopaaGreatDoor.Wb
open Go Go.Am Go.Am.Xm

set_option maxHeartbeats 4000000 in
theorem wd_ok {n : Nat} (hn : 1 ≤ n) {l : Bs} (hl : 8 ≤ l.length) {h : H} {K : V → H → Prop} (k : ∀ z, K (.i .u64 z) h) : Ok Tryz.prog n 105 [.s l] h K := by
  obtain ⟨n, rfl⟩ := Nat.exists_eq_add_of_le' hn
  refine Ok.bd (K105 fun hbd => ?_)
  unfold F105
  rw [cd_f]
  unfold F105_3
  have ix : ∀ (i : Nat) (κ : V → Prop), i < 8 → ((∀ z : UInt8, κ (.i .u8 z.toNat)) → pw.ix (mkX Tryz.prog) 9 (.s l) (.i .i64 (i : Int)) κ) := by
    intro i κ hi hk
    rw [ix_s tt9 rfl (List.getElem?_eq_getElem (show i < l.length by omega))]
    exact hk _
  refine ix 0 _ (by omega) fun z0 => ?_
  rw [ci_i]
  refine ix 1 _ (by omega) fun z1 => ?_
  rw [ci_i, sl_i (by decide), or_i]
  refine ix 2 _ (by omega) fun z2 => ?_
  rw [ci_i, sl_i (by decide), or_i]
  refine ix 3 _ (by omega) fun z3 => ?_
  rw [ci_i, sl_i (by decide), or_i]
  refine ix 4 _ (by omega) fun z4 => ?_
  rw [ci_i, sl_i (by decide), or_i]
  refine ix 5 _ (by omega) fun z5 => ?_
  rw [ci_i, sl_i (by decide), or_i]
  refine ix 6 _ (by omega) fun z6 => ?_
  rw [ci_i, sl_i (by decide), or_i]
  refine ix 7 _ (by omega) fun z7 => ?_
  rw [ci_i, sl_i (by decide), or_i]
  exact fun _ => k _

def lowB (l : Bs) : Prop := ∀ b ∈ l, b.toNat < 128
theorem lowB.drop {l : Bs} (h : lowB l) (n : Nat) : lowB (l.drop n) := fun b hb => h b (List.mem_of_mem_drop hb)

/-- A test that may come out either way. -/
theorem cd_any {b : Bool} {x y : Prop} (hx : x) (hy : y) : pw.cd (.b b) x y := by
  cases b
  · rw [cd_f]; exact hy
  · rw [cd_t]; exact hx

theorem sc_d {l : Bs} {m : Nat} (hm : m ≤ l.length) {κ : V → Prop} : pw.sc (mkX Tryz.prog) 9 (.s l) (some (.i .i64 (m : Int))) none none κ = κ (.s (l.drop m)) := sc_s1 tt9 rfl hm

theorem vin_ok {n : Nat} (hn : 1 ≤ n) {K : V → H → Prop} {i5 : V → H → Prop} {h : H} :
    ∀ (m : Nat) (l : Bs), l.length < m → l.length < 1000000 → lowB l → (∀ l' : Bs, l'.length ≤ l.length → lowB l' → i5 (.s l') h) → F74_229 pw (mkX Tryz.prog) (Ok Tryz.prog n) K i5 m (.s l) h := by
  intro m
  induction m with
  | zero => intro l hm; omega
  | succ m ih =>
    intro l hm hl hlo k
    rw [S74_229, lg_s tt9 rfl, gt_i]
    by_cases h32 : 32 < l.length
    · rw [decide_eq_true (show (32 : Int) < (l.length : Nat) by omega)]
      simp only [g1_t]
      refine wd_ok (l := l) hn (by omega) fun z1 => ?_
      rw [show ((8 : Int)) = ((8 : Nat) : Int) from rfl, sc_d (by omega)]
      refine wd_ok (l := l.drop 8) hn (by rw [List.length_drop]; omega) fun z2 => ?_
      rw [or_i, show ((16 : Int)) = ((16 : Nat) : Int) from rfl, sc_d (by omega)]
      refine wd_ok (l := l.drop 16) hn (by rw [List.length_drop]; omega) fun z3 => ?_
      rw [show ((24 : Int)) = ((24 : Nat) : Int) from rfl, sc_d (by omega)]
      refine wd_ok (l := l.drop 24) hn (by rw [List.length_drop]; omega) fun z4 => ?_
      rw [or_i, or_i, an_i, eq_i]
      simp only [pk_t]
      refine cd_any ?_ (k l (Nat.le_refl _) hlo)
      unfold F74_231
      rw [show ((32 : Int)) = ((32 : Nat) : Int) from rfl, sc_d (by omega)]
      refine ih _ (by rw [List.length_drop]; omega) (by rw [List.length_drop]; omega) (hlo.drop _) fun l' hl' hlo' => k l' (by rw [List.length_drop] at hl'; omega) hlo'
    · rw [decide_eq_false (show ¬ (32 : Int) < (l.length : Nat) by omega)]
      simp only [g1_f, pk_f, cd_f]
      exact k l (Nat.le_refl _) hlo

theorem vs_ok {n : Nat} (hn : 2 ≤ n) {l : Bs} (hl : l.length < 100000) (hlo : lowB l) {h : H} {K : V → H → Prop} (k : K (.b true) h) : Ok Tryz.prog n 74 [.s l] h K := by
  obtain ⟨n, rfl⟩ := Nat.exists_eq_add_of_le' hn
  refine Ok.bd (K74 fun hbd => ?_)
  unfold F74
  have go : ∀ (m : Nat) (l : Bs), l.length < m → l.length < 100000 → lowB l → F74_5 pw (mkX Tryz.prog) (Ok Tryz.prog (n + 1)) (fun v h => Bd h → K v h) m (.s l) h := by
    intro m
    induction m with
    | zero => intro l hm; omega
    | succ m ih =>
      intro l hm hl hlo
      rw [S74_5, lg_s tt9 rfl, gt_i]
      by_cases h0 : 0 < l.length
      · rw [decide_eq_true (show (0 : Int) < (l.length : Nat) by omega), cd_t]
        have again : ∀ l' : Bs, l'.length < l.length → lowB l' → F74_5 pw (mkX Tryz.prog) (Ok Tryz.prog (n + 1)) (fun v h => Bd h → K v h) m (.s l') h := fun l' h1 h2 => ih l' (by omega) (by omega) h2
        unfold F74_7
        obtain ⟨c, t, rfl⟩ : ∃ c t, l = c :: t := by
          cases l with
          | nil => simp at h0
          | cons c t => exact ⟨c, t, rfl⟩
        have hc := hlo c (List.mem_cons_self ..)
        have i0 : ∀ κ : V → Prop, pw.ix (mkX Tryz.prog) 9 (.s (c :: t)) (.i .i64 0) κ = κ (.i .u8 c.toNat) := fun κ => ix_s tt9 rfl (n := 0) rfl
        rw [i0, lt_i, decide_eq_true (show (c.toNat : Int) < 128 by omega), cd_t]
        have d1 : ∀ κ : V → Prop, pw.sc (mkX Tryz.prog) 9 (.s (c :: t)) (some (.i .i64 1)) none none κ = κ (.s t) := fun κ => sc_s1 tt9 rfl (n := 1) (by simp)
        rw [d1, lg_s tt9 rfl, gt_i]
        have ht : lowB t := fun b hb => hlo b (List.mem_cons_of_mem _ hb)
        simp only [List.length_cons] at again
        by_cases h8 : 8 < t.length
        · rw [decide_eq_true (show (8 : Int) < (t.length : Nat) by omega)]
          simp only [g1_t]
          refine wd_ok (l := t) (by omega) (by omega) fun z1 => ?_
          rw [an_i, eq_i]
          simp only [pk_t]
          refine cd_any ?_ (again t (by omega) ht)
          rw [show ((8 : Int)) = ((8 : Nat) : Int) from rfl, sc_d (by omega), lg_s tt9 rfl, gt_i]
          have h2 := ht.drop 8
          have l2 : (t.drop 8).length = t.length - 8 := List.length_drop ..
          generalize t.drop 8 = t2 at h2 l2 ⊢
          by_cases h16 : 16 < t2.length
          · rw [decide_eq_true (show (16 : Int) < (t2.length : Nat) by omega)]
            simp only [g1_t]
            refine wd_ok (l := t2) (by omega) (by omega) fun z2 => ?_
            rw [sc_d (by omega)]
            refine wd_ok (l := t2.drop 8) (by omega) (by rw [List.length_drop]; omega) fun z3 => ?_
            rw [or_i, an_i, eq_i]
            simp only [pk_t]
            refine cd_any ?_ (again t2 (by omega) h2)
            rw [show ((16 : Int)) = ((16 : Nat) : Int) from rfl, sc_d (by omega)]
            refine vin_ok (by omega) 100000 _ (by rw [List.length_drop]; simp only [List.length_cons] at hl; omega) (by rw [List.length_drop]; simp only [List.length_cons] at hl; omega) (h2.drop _) fun l' h3 h4 => again l' (by rw [List.length_drop] at h3; omega) h4
          · rw [decide_eq_false (show ¬ (16 : Int) < (t2.length : Nat) by omega)]
            simp only [g1_f, pk_f, cd_f]
            exact again t2 (by omega) h2
        · rw [decide_eq_false (show ¬ (8 : Int) < (t.length : Nat) by omega)]
          simp only [g1_f, pk_f, cd_f]
          exact again t (by omega) ht
      · rw [decide_eq_false (show ¬ (0 : Int) < (l.length : Nat) by omega), cd_f]
        unfold F74_3
        exact fun _ => k
  exact go 100000 l hl hl hlo

def plnB (l : Bs) : Prop := ∀ b ∈ l, 32 ≤ b.toNat ∧ b.toNat < 128
theorem plnB.low {l : Bs} (h : plnB l) : lowB l := fun b hb => (h b hb).2
theorem mayC_pl {c : UInt8} (h : 32 ≤ c.toNat) : mayC (c.toNat : Int) = true := by
  unfold mayC
  rw [decide_eq_true (show (32 : Int) ≤ c.toNat by omega)]
  rfl

/-- Plain signs are clean. -/
theorem clean_ok {n : Nat} (hn : 3 ≤ n) {l : Bs} (hl : l.length < 50000) (hp : plnB l) {h : H} {K : V → H → Prop} (k : ∀ h', But h h' none → K (.b true) h') : Ok Tryz.prog n 38 [.s l] h K := by
  obtain ⟨n, rfl⟩ := Nat.exists_eq_add_of_le' hn
  refine Ok.bd (K38 fun hbd => ?_)
  unfold F38
  rw [cf_k]
  refine vs_ok (by omega) (by omega) hp.low ?_
  rw [nt_b, Bool.not_true, cd_f]
  unfold F38_3
  rw [rn_s tt9 rfl]
  have go : ∀ (m p : Nat) (h' : H) (ri : Nat), l.length - p < m → p ≤ l.length → h'.mem.get ri = some (.it l p) → But h h' none → h.next ≤ ri → ri < h'.next →
      F38_9 pw (mkX Tryz.prog) (Ok Tryz.prog (n + 2)) (fun v h => Bd h → K v h) m (.p ri 0) h' := by
    intro m
    induction m with
    | zero => intro p h' ri hm; omega
    | succ m ih =>
      intro p h' ri hm hp' hg f h0 h1
      show pw.nx _ _ _ _
      by_cases hlt : p < l.length
      · rw [nx_t hg hlt]
        have hsp : l[p]? = some (l[p]'hlt) := List.getElem?_eq_getElem hlt
        have hb := hp _ (List.getElem_mem hlt)
        rw [dec_lo hsp (by omega)]
        simp only [ex_t, List.getElem?_cons_zero, oP_some, cd_t]
        unfold F38_13
        simp only [ex_t, List.getElem?_cons_zero, List.getElem?_cons_succ, oP_some, cf_k]
        refine may_ok (by omega) ?_
        rw [mayC_pl hb.1, nt_b, Bool.not_true, cd_f]
        have f1 : But h' (putB h' ri (.it l (p + 1))) (some ri) := but_putB h1
        refine ih (p + 1) _ ri (by omega) (by omega) ?_ (f.over f1 (.inr fun z e => by cases e; exact h0)) h0 h1
        show (h'.mem.put ri _).get ri = _
        rw [T.get_put, if_pos rfl]
      · rw [nx_f hg (by omega)]
        simp only [ex_t, List.getElem?_cons_zero, oP_some, cd_f]
        unfold F38_5
        exact fun _ => k h' f
  refine go 100000 0 _ h.next (by omega) (by omega) ?_ (But.new _ _ _) (Nat.le_refl _) (Nat.lt_succ_self _)
  show (h.mem.put h.next _).get h.next = _
  rw [T.get_put, if_pos rfl]
end Go.Proofs.YtbkhielalbbopaaGreatDoor.Wb
