/- Who has which address, with fixed devices and barred addresses: the walks of what the pool's methods ask. -/
import Derived.Test.YtfkbofbdonmpfaaPr1
import Derived.Test.YtfkbofbdonmpfaaM5
set_option linter.unusedSimpArgs false
set_option linter.unusedVariables false
set_option linter.unusedSectionVars false
set_option linter.unnecessarySimpa false
set_option maxRecDepth 100000
namespace Go.Proofs.Ytfkbofbdonmpfaa.Wb
open Go.Am

theorem l_index_loop {n : Nat} {h0 : H} (hbd0 : Bd h0) {v clo : V} {es : List Le} {pr : Le → Bool} (hv : VecE h0 v 92 11 encL es) (hl : es.length ≤ 10000) {c : Option Nat} (hc : ClP Try.prog n h0 c clo encL es pr) {K : V → H → Prop} (hk : ∀ h', Bd h' → But h0 h' none → K (.i .i64 (fndP pr es 0)) h') :
    ∀ (fuel k : Nat) (h : H), es.length < fuel + k → k ≤ es.length → Bd h → But h0 h none → fndP pr (es.drop k) k = fndP pr es 0 →
    F143_9 pw xx (Ok Try.prog n) K fuel v clo (.i .i64 (es.length : Nat)) (.i .i64 (k : Nat)) h := by
  intro fuel
  induction fuel with
  | zero => intro k h h1 h2; omega
  | succ fuel ih =>
    intro k h h1 h2 hbd hb hf
    rw [S143_9]
    by_cases hlt : k < es.length
    · simp (disch := omega) only [ws, dec_t, F143_15]
      refine vece_at encL_len (hv.keep (hv.lt hbd0) hb (.inr rfl)) rfl hlt fun b ha => ?_
      rw [ha.all]
      have hd : es.drop k = es[k] :: es.drop (k + 1) := List.drop_eq_getElem_cons hlt
      rw [hd] at hf
      simp only [fndP] at hf
      refine hc.call (List.getElem_mem hlt) hbd (hb.none c) fun h' hbd' hb' => ?_
      cases he : pr es[k] with
      | true =>
        simp (disch := omega) only [ws]
        rw [if_pos he] at hf
        have := hk h' hbd' (hb.trans hb')
        rw [← hf] at this
        exact this
      | false =>
        simp (disch := omega) only [ws, F143_20]
        rw [if_neg (by rw [he]; simp)] at hf
        exact ih (k + 1) h' (by omega) (by omega) hbd' (hb.trans hb') hf
    · simp (disch := omega) only [ws, dec_f, F143_4]
      rw [List.drop_eq_nil_of_le (by omega)] at hf
      have := hk h hbd hb
      rw [← hf] at this
      exact this

theorem l_index_ok {n : Nat} (hn : 1 ≤ n) {h0 : H} {v clo : V} {es : List Le} {pr : Le → Bool} (hv : VecE h0 v 92 11 encL es) (hl : es.length ≤ 10000) {c : Option Nat} (hc : ClP Try.prog (n - 1) h0 c clo encL es pr) {K : V → H → Prop} (hk : ∀ h', Bd h' → But h0 h' none → K (.i .i64 (fndP pr es 0)) h') : Ok Try.prog n 143 [v, clo] h0 K := by
  obtain ⟨n, rfl⟩ := Nat.exists_eq_add_of_le' hn
  refine K143 fun hbd0 => ?_
  simp (disch := omega) only [F143, vece_len tt89 rfl hv]
  exact l_index_loop hbd0 hv hl hc hk 100000 0 h0 (by omega) (by omega) hbd0 (But.refl _ _) rfl

/-- The map of what is barred: addresses, times. -/
def MapOk (ms : List (V × V × Nat)) : Prop := ∀ x ∈ ms, ∃ a t, x.1 = .a (adV a) ∧ x.2.1 = .i .i64 t
/-- The pool: its block, its leases' block, its fixed ones. -/
def PG (h : H) (r : Nat) (c : Option Nat) (fx : List Le) (ms : List (V × V × Nat)) (first last now : Int) (es : List He) : Prop := ∃ lv fv mb k, h.mem.get r = some (.c [.i .u32 (numA first), .i .u32 (numA last), fv, lv, .m mb, .i .i64 now] 144 true) ∧ VecE h lv 148 12 encH es ∧ vblk lv = c ∧ c ≠ some r ∧ h.mem.get mb = some (.mp ms k) ∧ MapOk ms ∧ VecE h fv 92 11 encL fx ∧ vblk fv ≠ some r ∧ (∀ z, c = some z → vblk fv ≠ some z)
theorem PG.mb {h : H} {c : Option Nat} {lv : V} {es : List He} {mb k : Nat} {ms : List (V × V × Nat)} (hv : VecE h lv 148 12 encH es) (hc : vblk lv = c) (hm : h.mem.get mb = some (.mp ms k)) : c ≠ some mb := fun e => by
  obtain ⟨_, ⟨rfl, _⟩ | ⟨q, cap, e2, l, rfl, h2, _⟩⟩ := hv
  · rw [← hc] at e; cases e
  · rw [← hc] at e; cases e; rw [h2] at hm; cases hm
theorem PG.keep {h h' : H} {r : Nat} {c : Option Nat} {fx : List Le} {ms : List (V × V × Nat)} {first last now : Int} {es : List He} (ht : PG h r c fx ms first last now es) (hd : Bd h) (hk : But h h' none) : PG h' r c fx ms first last now es := by
  obtain ⟨lv, fv, mb, k, h1, h2, h3, h4, h5, h6, h7, h8⟩ := ht
  exact ⟨lv, fv, mb, k, hk.get (hd _ _ h1) (by simp) h1, h2.keep (h2.lt hd) hk (.inr rfl), h3, h4, hk.get (hd _ _ h5) (by simp) h5, h6, h7.keep (h7.lt hd) hk (.inr rfl), h8⟩
theorem PG.lt {h : H} {r : Nat} {c : Option Nat} {fx : List Le} {ms : List (V × V × Nat)} {first last now : Int} {es : List He} (ht : PG h r c fx ms first last now es) (hd : Bd h) : r < h.next ∧ ∀ q, c = some q → q < h.next := by
  obtain ⟨lv, fv, mb, k, h1, h2, rfl, h3⟩ := ht
  exact ⟨hd _ _ h1, h2.lt hd⟩

theorem timeG_ok {n : Nat} (hn : 1 ≤ n) {r : Nat} {c : Option Nat} {fx : List Le} {ms : List (V × V × Nat)} {first last now t : Int} {es : List He} {h : H} {K : V → H → Prop} (ht : PG h r c fx ms first last now es)
    (hk : ∀ h', Bd h' → But h h' (some r) → PG h' r c fx ms first last (timeP now t) es → K (.i .i64 (timeP now t)) h') : Ok Try.prog n 87 [.p r 0, .i .i64 t] h K := by
  obtain ⟨n, rfl⟩ := Nat.exists_eq_add_of_le' hn
  refine Ok.bd (K87 fun hbd => ?_)
  obtain ⟨lv, fv, mb, k, h1, h2, h3, h4, h5, h6, h7, h8, h9⟩ := id ht
  have r5 : ∀ κ : V → Prop, pw.l1 (.p r (0 + 5)) h κ = κ (.i .i64 now) := fun κ => l1_a h1 rfl
  simp only [timeP] at hk
  simp (disch := omega) only [F87, ws, r5]
  by_cases hc : now < t
  · by_cases hc2 : t ≤ 1099511627776
    · simp (disch := omega) only [dec_t hc, dec_t hc2, ws, dec_t]
      refine s1_a h1 (by simp) rfl fun h' hg hb => ?_
      simp only [F87_4, nl_p, fa_p]
      rw [l1_a hg rfl]
      simp only [if_pos (And.intro hc hc2)] at hk
      exact fun hbd' => hk h' hbd' hb ⟨lv, fv, mb, k, hg, h2.keep (h2.lt hbd) hb (.inl (by rw [h3]; exact h4)), h3, h4, hb.get (hbd _ _ h5) (by intro e; cases e; rw [h1] at h5; cases h5) h5, h6, h7.keep (h7.lt hbd) hb (.inl h8), h8, h9⟩
    · simp (disch := omega) only [dec_t hc, dec_f hc2, ws, F87_4, r5]
      simp only [if_neg (show ¬ (now < t ∧ t ≤ 1099511627776) by omega)] at hk
      exact fun hbd' => hk h hbd' (But.refl _ _) ht
  · simp (disch := omega) only [dec_f hc, ws, F87_4, r5]
    simp only [if_neg (show ¬ (now < t ∧ t ≤ 1099511627776) by omega)] at hk
    exact fun hbd' => hk h hbd' (But.refl _ _) ht

theorem ofG_ok {n : Nat} (hn : 3 ≤ n) {r : Nat} {c : Option Nat} {fx : List Le} {ms : List (V × V × Nat)} {first last now a : Int} {es : List He} {h : H} {K : V → H → Prop} (ht : PG h r c fx ms first last now es) (hl : es.length ≤ 10000)
    (hk : ∀ h', Bd h' → But h h' none → K (.i .i64 (fndP (isA a) es 0)) h') : Ok Try.prog n 91 [.p r 0, .a (adV a)] h K := by
  obtain ⟨n, rfl⟩ := Nat.exists_eq_add_of_le' hn
  refine K91 (n := n + 2) fun hbd => ?_
  simp (disch := omega) only [F91]
  refine bx_a (cs := adV a) rfl fun q h1 hq hb1 _ hl1 => ?_
  have hbd1 := hb1.2.2 hbd
  obtain ⟨lv, fv, mb, k, g1, g2, g3⟩ := ht.keep hbd hb1
  rw [nl_p, fa_p, l1_a g1 rfl, cf_k]
  have hcl : ClP Try.prog (n + 1) h1 none (.f 142 [.p q 0]) encH es (isA a) := ClP.mk fun e he h4 K4 hbd4 hb4 hk4 => cl142_ok (by omega) (hb4.get (hbd1 _ _ hq) (by simp) hq) hk4
  exact h_index_ok (n := n + 2) (by omega) g2 hl hcl fun h' hbd' hb' => hk h' hbd' (hb1.trans hb')

theorem byG_ok {n : Nat} (hn : 3 ≤ n) {r : Nat} {c : Option Nat} {fx : List Le} {ms : List (V × V × Nat)} {first last now m : Int} {es : List He} {h : H} {K : V → H → Prop} (ht : PG h r c fx ms first last now es) (hl : es.length ≤ 10000)
    (hk : ∀ h', Bd h' → But h h' none → K (.i .i64 (fndP (isM now m) es 0)) h') : Ok Try.prog n 90 [.p r 0, .a (maV m)] h K := by
  obtain ⟨n, rfl⟩ := Nat.exists_eq_add_of_le' hn
  refine K90 (n := n + 2) fun hbd => ?_
  simp (disch := omega) only [F90]
  refine bx_a (cs := [.p r 0]) rfl fun p h0 hp hb0 _ hl0 => ?_
  refine bx_a (cs := maV m) rfl fun q h1 hq hb1 _ hl1 => ?_
  have hb01 := hb0.trans hb1
  have hbd1 := hb01.2.2 hbd
  obtain ⟨lv, fv, mb, k, g1, g2, g3⟩ := ht.keep hbd hb01
  have hp1 := hb1.get hl0 (by simp) hp
  rw [l1_a hp1 (show [V.p r 0][0]? = some (.p r 0) from rfl), nl_p, fa_p, l1_a g1 rfl, cf_k]
  have hcl : ClP Try.prog (n + 1) h1 none (.f 141 [.p q 0, .p p 0]) encH es (isM now m) := ClP.mk fun e he h4 K4 hbd4 hb4 hk4 => cl141_ok (by omega) (hb4.get (hbd1 _ _ hq) (by simp) hq) (hb4.get (hbd1 _ _ hp1) (by simp) hp1) (hb4.get (hbd1 _ _ g1) (by simp) g1) hk4
  exact h_index_ok (n := n + 2) (by omega) g2 hl hcl fun h' hbd' hb' => hk h' hbd' (hb01.trans hb')

theorem liveG_ok {n : Nat} (hn : 1 ≤ n) {r j : Nat} {c : Option Nat} {fx : List Le} {ms : List (V × V × Nat)} {first last now : Int} {es : List He} (hj : j < es.length) {h : H} {K : V → H → Prop} (ht : PG h r c fx ms first last now es) (hk : Bd h → K (.b (decide (now < es[j].l.un))) h) : Ok Try.prog n 96 [.p r 0, .i .i64 (j : Nat)] h K := by
  obtain ⟨n, rfl⟩ := Nat.exists_eq_add_of_le' hn
  refine Ok.bd (K96 fun hbd => ?_)
  obtain ⟨lv, fv, mb, k, g1, g2, g3⟩ := ht
  have r5 : ∀ κ : V → Prop, pw.l1 (.p r (0 + 5)) h κ = κ (.i .i64 now) := fun κ => l1_a g1 rfl
  have r3 : ∀ κ : V → Prop, pw.l1 (.p r (0 + 3)) h κ = κ lv := fun κ => l1_a g1 rfl
  simp (disch := omega) only [F96, ws, dec_t, r5, r3]
  refine vece_at encH_len g2 (i := j) rfl hj fun b ha => ?_
  rw [fa_p, fa_p, Nat.add_assoc, ha.get (x := .i .i64 es[j].l.un) rfl]
  simp (disch := omega) only [ws]
  exact hk
end Go.Proofs.Ytfkbofbdonmpfaa.Wb
