/- Sorting: the whole. -/
import Derived.Test.YtbkhielalbbopaaGreatDoorVo6
set_option linter.unusedSimpArgs false
set_option linter.unusedVariables false
set_option linter.unusedSectionVars false
set_option linter.unnecessarySimpa false
set_option maxRecDepth 100000
namespace Go.Proofs.YtbkhielalbbopaaGreatDoor.Wb
open Go.Am

def Pre (a b : Nat) (f : Nat → Mp) : Prop := a = 0 ∨ ∀ x, a ≤ x → x < b → lt (f (a - 1)) (f x)
theorem Pre.prm {a b : Nat} {f g : Nat → Mp} (h : Pre a b f) (p : Prm a b f g) : Pre a b g := by
  rcases h with e | h
  · exact .inl e
  · by_cases ha : a = 0
    · exact .inl ha
    · refine .inr ?_
      rw [p.out (x := a - 1) (by omega)]
      exact p.all h
theorem Pre.sub {a b c : Nat} {f : Nat → Mp} (h : Pre a b f) (hc : c ≤ b) : Pre a c f := by
  rcases h with e | h
  · exact .inl e
  · exact .inr fun x h1 h2 => h x h1 (by omega)
theorem Srt.join {a b c : Nat} {g : Nat → Mp} (h1 : Srt a c g) (h2 : Srt (c + 1) b g) (lo : ∀ x, a ≤ x → x < c → ¬ lt (g c) (g x)) (hi : ∀ x, c < x → x < b → ¬ lt (g x) (g c)) : Srt a b g := by
  intro x y x1 x2 x3
  by_cases hy : y < c
  · exact h1 x y x1 x2 hy
  by_cases hx : c < x
  · exact h2 x y (by omega) x2 x3
  by_cases hyc : y = c
  · subst hyc; exact lo x x1 (by omega)
  by_cases hxc : x = c
  · subst hxc; exact hi y (by omega) x3
  · exact le_tr (lo x x1 (by omega)) (hi y (by omega) x3)
theorem Srt.out {a b c d : Nat} {f g : Nat → Mp} (h : Srt a b f) (p : Prm c d f g) (hd : b ≤ c ∨ d ≤ a) : Srt a b g := by
  intro x y h1 h2 h3
  rw [p.out (by omega), p.out (by omega)]
  exact h x y h1 h2 h3
theorem Mid.gt {a b c n : Nat} {g : Nat → Mp} (m : Mid a b c g) (hd : Dis n g) (hb : b ≤ n) : ∀ x, c < x → x < b → lt (g c) (g x) := by
  intro x h1 h2
  rcases hd c x (by omega) (by omega) (by omega) with h | h
  · exact h
  · exact absurd h (m.hi x h1 h2)

set_option maxHeartbeats 4000000 in
theorem pdq_loop {n0 : Nat} {v clo : V} {n : Nat} (hn : n ≤ 1000) : ∀ (L m a b lim fuel : Nat) (wb wp : Bool) (f : Nat → Mp) (h : H) (K : V → H → Prop), b - a ≤ L → L + n0 + 10 ≤ m → a ≤ b → b ≤ n → b < a + 50 → lim ≤ 7 → L < fuel → fuel ≤ 100000 → Bd h → D h v n f → CmpC n0 h (vblk v) clo → Dis n f → Pre a b f →
    (∀ h' g, Bd h' → But h h' (vblk v) → D h' v n g → Prm a b f g → Srt a b g → K (.t []) h') →
    F155_8 pw xx (Ok Tryz.prog m) K fuel v (.i .i64 a) (.i .i64 b) (.i .i64 lim) clo (.b wb) (.b wp) h := by
  intro L
  induction L using Nat.strongRecOn with
  | _ L ih =>
  intro m a b lim fuel wb wp f h K hL hm hab hb h50 hlim hfu hfu2 hbd hv hc hd hpre hk
  obtain ⟨fuel, rfl⟩ := Nat.exists_eq_add_of_le' (show 1 ≤ fuel by omega)
  rw [S155_8]
  by_cases hsm : b - a ≤ 12
  · simp (disch := omega) only [ws, dec_t]
    exact ins_ok (by omega) hn hab hb hv hc hk
  simp (disch := omega) only [ws, dec_f, F155_20]
  by_cases hl0 : lim = 0
  · simp (disch := omega) only [ws, dec_t]
    exact heap_ok (by omega) hn (by omega) hb hv hc hk
  simp (disch := omega) only [ws, dec_f, F155_29]
  rw [show (b : Int) - (a : Int) = ((b - a : Nat) : Int) by omega]
  -- behind the partition
  have cut : ∀ (lim pv : Nat) (h1 : H) (f1 : Nat → Mp) (wb : Bool), lim ≤ 7 → a ≤ pv → pv < b → Bd h1 → But h h1 (vblk v) → D h1 v n f1 → Prm a b f f1 →
      F155_78 pw xx (Ok Tryz.prog m) K (F155_8 pw xx (Ok Tryz.prog m) K fuel) v (.i .i64 a) (.i .i64 b) (.i .i64 lim) clo (.i .i64 ((b - a : Nat) : Int)) (.i .i64 pv) h1 := by
    intro lim pv h1 f1 wb hlim hp1 hp2 hbd1 b1 hv1 p1
    unfold F155_78
    rw [cf_k]
    refine part_ok (n0 := n0) (by omega) hn (by omega) hp1 hp2 hb hv1 (hc.later b1) fun h2 g mid t hbd2 b2 hv2 p2 md => ?_
    have p12 := p1.trans p2
    have hdg : Dis n g := p12.dis hb hd
    have hgt := md.gt hdg hb
    have hpg : Pre a b g := hpre.prm p12
    have m1 := md.am
    have m2 := md.mb
    have b12 := b1.trans b2
    simp (disch := omega) only [ws, List.getElem?_cons_zero, List.getElem?_cons_succ, oP_some]
    obtain ⟨m', rfl⟩ := Nat.exists_eq_add_of_le' (show 1 ≤ m by omega)
    rw [show (mid : Int) + 1 = ((mid + 1 : Nat) : Int) by omega]
    by_cases hlr : (mid : Int) - a < (b : Int) - mid
    · simp (disch := omega) only [ws, dec_t hlr]
      refine K155 fun _ => ?_
      unfold F155
      refine ih (mid - a) (by omega) m' a mid lim 100000 true true g h2 _ (Nat.le_refl _) (by omega) (by omega) (by omega) (by omega) hlim (by omega) (Nat.le_refl _) hbd2 hv2 (hc.later b12) hdg (hpg.sub (by omega)) fun h3 g3 hbd3 b3 hv3 p3 s3 => ?_
      have b123 := b12.trans b3
      have em : g3 mid = g mid := p3.out (by omega)
      have d3 : Dis n g3 := p3.dis (by omega) hdg
      refine ih (b - (mid + 1)) (by omega) (m' + 1) (mid + 1) b lim fuel _ t g3 h3 K (Nat.le_refl _) (by omega) (by omega) hb (by omega) hlim (by omega) (by omega) hbd3 hv3 (hc.later b123) d3 (.inr fun x x1 x2 => ?_) fun h4 g4 hbd4 b4 hv4 p4 s4 => ?_
      · rw [show mid + 1 - 1 = mid by omega, em, p3.out (x := x) (by omega)]
        exact hgt x (by omega) x2
      · have em4 : g4 mid = g mid := by rw [p4.out (by omega), em]
        refine hk h4 g4 hbd4 (b123.trans b4) hv4 ((p12.trans (p3.wide (Nat.le_refl _) (by omega))).trans (p4.wide (by omega) (Nat.le_refl _))) (Srt.join (c := mid) (s3.out p4 (.inl (by omega))) s4 (fun x x1 x2 => ?_) fun x x1 x2 => ?_)
        · rw [em4, p4.out (x := x) (by omega)]
          exact p3.all (P := fun e => ¬ lt (g mid) e) (fun y y1 y2 => lt_as (md.lo y y1 y2)) x x1 x2
        · rw [em4]
          exact p4.all (P := fun e => ¬ lt e (g mid)) (fun y y1 y2 => by rw [p3.out (x := y) (by omega)]; exact md.hi y (by omega) y2) x (by omega) x2
    · simp (disch := omega) only [ws, dec_f hlr]
      refine K155 fun _ => ?_
      unfold F155
      refine ih (b - (mid + 1)) (by omega) m' (mid + 1) b lim 100000 true true g h2 _ (Nat.le_refl _) (by omega) (by omega) hb (by omega) hlim (by omega) (Nat.le_refl _) hbd2 hv2 (hc.later b12) hdg (.inr fun x x1 x2 => by rw [show mid + 1 - 1 = mid by omega]; exact hgt x (by omega) x2) fun h3 g3 hbd3 b3 hv3 p3 s3 => ?_
      have b123 := b12.trans b3
      have em : g3 mid = g mid := p3.out (by omega)
      have d3 : Dis n g3 := p3.dis (by omega) hdg
      have hp3 : Pre a mid g3 := by
        rcases hpg with e | e
        · exact .inl e
        · refine .inr fun x x1 x2 => ?_
          rw [p3.out (x := x) (by omega), p3.out (x := a - 1) (by omega)]
          exact e x x1 (by omega)
      refine ih (mid - a) (by omega) (m' + 1) a mid lim fuel _ t g3 h3 K (Nat.le_refl _) (by omega) (by omega) (by omega) (by omega) hlim (by omega) (by omega) hbd3 hv3 (hc.later b123) d3 hp3 fun h4 g4 hbd4 b4 hv4 p4 s4 => ?_
      have em4 : g4 mid = g mid := by rw [p4.out (by omega), em]
      refine hk h4 g4 hbd4 (b123.trans b4) hv4 ((p12.trans (p3.wide (by omega) (Nat.le_refl _))).trans (p4.wide (Nat.le_refl _) (by omega))) (Srt.join (c := mid) s4 (s3.out p4 (.inr (by omega))) (fun x x1 x2 => ?_) fun x x1 x2 => ?_)
      · rw [em4]
        exact p4.all (P := fun e => ¬ lt (g mid) e) (fun y y1 y2 => by rw [p3.out (x := y) (by omega)]; exact lt_as (md.lo y y1 y2)) x x1 x2
      · rw [em4, p4.out (x := x) (by omega)]
        exact p3.all (P := fun e => ¬ lt e (g mid)) (fun y y1 y2 => md.hi y (by omega) y2) x (by omega) x2
  -- ahead of it: nothing stands ahead that is as great
  have look : ∀ (lim pv : Nat) (wb wp : Bool) (h1 : H) (f1 : Nat → Mp), lim ≤ 7 → a ≤ pv → pv < b → Bd h1 → But h h1 (vblk v) → D h1 v n f1 → Prm a b f f1 →
      F155_68 pw xx (Ok Tryz.prog m) K (F155_8 pw xx (Ok Tryz.prog m) K fuel) v (.i .i64 a) (.i .i64 b) (.i .i64 lim) clo (.b wb) (.b wp) (.i .i64 ((b - a : Nat) : Int)) (.i .i64 pv) h1 := by
    intro lim pv wb wp h1 f1 hlim hp1 hp2 hbd1 b1 hv1 p1
    unfold F155_68
    by_cases ha : a = 0
    · simp (disch := omega) only [ws, dec_f]
      exact cut lim pv h1 f1 wb hlim hp1 hp2 hbd1 b1 hv1 p1
    · simp (disch := omega) only [ws, dec_t]
      refine d_rd hv1 (i := a - 1) (by omega) (by omega) ?_
      try simp (disch := omega) only [ws]
      refine d_rd hv1 (i := pv) rfl (by omega) ?_
      try simp (disch := omega) only [ws]
      refine hc m (by omega) (f1 (a - 1)) (f1 pv) h1 _ hbd1 b1 fun h3 z hbd3 hb3 hz => ?_
      have hz0 : z < 0 := by
        rcases hpre.prm p1 with e | e
        · exact absurd e ha
        · exact hz.2 (e pv hp1 hp2)
      simp (disch := omega) only [ws, dec_t hz0, Bool.not_true]
      exact cut lim pv h3 f1 wb hlim hp1 hp2 hbd3 (b1.trans (hb3.none _)) (hv1.keep hbd1 hb3) p1
  have mid57 : ∀ (lim pv : Nat) (t : Int) (wb wp : Bool) (h1 : H) (f1 : Nat → Mp), lim ≤ 7 → a ≤ pv → pv < b → Bd h1 → But h h1 (vblk v) → D h1 v n f1 → Prm a b f f1 →
      F155_57 pw xx (Ok Tryz.prog m) K (F155_8 pw xx (Ok Tryz.prog m) K fuel) v (.i .i64 a) (.i .i64 b) (.i .i64 lim) clo (.b wb) (.b wp) (.i .i64 ((b - a : Nat) : Int)) (.i .i64 pv) (.i .i64 t) h1 := by
    intro lim pv t wb wp h1 f1 hlim hp1 hp2 hbd1 b1 hv1 p1
    unfold F155_57
    have c1 : CmpC n0 h1 none clo := fun k hk' x y h2 K2 hb2 f2 kk => hc k hk' x y h2 K2 hb2 (b1.trans (f2.none _)) kk
    have go : F155_68 pw xx (Ok Tryz.prog m) K (F155_8 pw xx (Ok Tryz.prog m) K fuel) v (.i .i64 a) (.i .i64 b) (.i .i64 lim) clo (.b wb) (.b wp) (.i .i64 ((b - a : Nat) : Int)) (.i .i64 pv) h1 := look lim pv wb wp h1 f1 hlim hp1 hp2 hbd1 b1 hv1 p1
    by_cases ht : t = 1
    · cases wb <;> cases wp <;> simp (disch := omega) only [ws, dec_t ht]
      · exact go
      · exact go
      · exact go
      · refine part_ins_ok (n0 := n0) (by omega) hn (by omega) h50 hb hv1 c1 fun h2 s hbd2 f2 hs => ?_
        cases s with
        | true =>
          simp (disch := omega) only [ws]
          exact hk h2 f1 hbd2 (b1.trans (f2.none _)) (hv1.keep hbd1 f2) p1 (hs rfl)
        | false =>
          simp (disch := omega) only [ws]
          exact look lim pv true true h2 f1 hlim hp1 hp2 hbd2 (b1.trans (f2.none _)) (hv1.keep hbd1 f2) p1
    · cases wb <;> cases wp <;> simp (disch := omega) only [ws, dec_f ht] <;> exact go
  have piv : ∀ (lim : Nat) (wb wp : Bool) (h1 : H) (f1 : Nat → Mp), lim ≤ 7 → Bd h1 → But h h1 (vblk v) → D h1 v n f1 → Prm a b f f1 →
      F155_38 pw xx (Ok Tryz.prog m) K (F155_8 pw xx (Ok Tryz.prog m) K fuel) v (.i .i64 a) (.i .i64 b) (.i .i64 lim) clo (.b wb) (.b wp) (.i .i64 ((b - a : Nat) : Int)) h1 := by
    intro lim wb wp h1 f1 hlim hbd1 b1 hv1 p1
    unfold F155_38
    have c1 : CmpC n0 h1 none clo := fun k hk' x y h2 K2 hb2 f2 kk => hc k hk' x y h2 K2 hb2 (b1.trans (f2.none _)) kk
    rw [cf_k]
    refine piv_ok (n0 := n0) (by omega) hn (by omega) h50 hb hv1 c1 fun h2 pv t hbd2 f2 q1 q2 _ => ?_
    have b2 := b1.trans (f2.none (vblk v))
    have hv2 := hv1.keep hbd1 f2
    simp (disch := omega) only [ws, List.getElem?_cons_zero, List.getElem?_cons_succ, oP_some]
    by_cases ht : t = 2
    · simp (disch := omega) only [ws, dec_t ht]
      refine rev_ok (by omega) hn (by omega) hb hv2 fun h3 g hbd3 b3 hv3 p3 => ?_
      try simp (disch := omega) only [ws]
      rw [show (b : Int) - 1 - ((pv : Int) - a) = ((b - 1 - (pv - a) : Nat) : Int) by omega]
      exact mid57 lim _ 1 wb wp h3 g hlim (by omega) (by omega) hbd3 (b2.trans b3) hv3 (p1.trans p3)
    · simp (disch := omega) only [ws, dec_f ht]
      exact mid57 lim pv t wb wp h2 f1 hlim q1 q2 hbd2 b2 hv2 p1
  cases wb with
  | true =>
    simp (disch := omega) only [ws, Bool.not_true]
    exact piv lim true wp h f hlim hbd (But.refl _ _) hv (Prm.refl _ _ _)
  | false =>
    simp (disch := omega) only [ws, Bool.not_false]
    refine brk_ok (by omega) hn (by omega) (by omega) hb hv fun h3 g hbd3 b3 hv3 p3 => ?_
    try simp (disch := omega) only [ws]
    rw [show (lim : Int) - 1 = ((lim - 1 : Nat) : Int) by omega]
    exact piv (lim - 1) false wp h3 g (by omega) hbd3 b3 hv3 p3

/-- SortFunc of entries that are all different. -/
theorem sort_ok {n0 m : Nat} {v clo : V} {n : Nat} {f : Nat → Mp} (hn : n < 50) (hm : n + n0 + 14 ≤ m) {h : H} {K : V → H → Prop} (hv : D h v n f) (hc : CmpC n0 h (vblk v) clo) (hd : Dis n f)
    (hk : ∀ h' g, Bd h' → But h h' (vblk v) → D h' v n g → Prm 0 n f g → Srt 0 n g → K (.t []) h') : Ok Tryz.prog m 132 [v, clo] h K := by
  obtain ⟨m, rfl⟩ := Nat.exists_eq_add_of_le' (show 2 ≤ m by omega)
  refine K132 (n := m + 1) fun hbd => ?_
  unfold F132
  rw [vece_len tt84 rfl hv, fl_len, ci_u64 (by omega), cf_k]
  refine blen_ok (by omega) (by omega) fun h1 k hbd1 f1 hk7 _ _ => ?_
  rw [cf_k]
  refine K155 (n := m) fun _ => ?_
  unfold F155
  exact pdq_loop (n0 := n0) (by omega) n m 0 n k 100000 true true f h1 _ (by omega) (by omega) (by omega) (Nat.le_refl _) (by omega) hk7 (by omega) (Nat.le_refl _) hbd1 (hv.keep hbd f1) (hc.later (f1.none _)) hd (.inl rfl) fun h2 g hbd2 b2 hv2 p2 s2 => hk h2 g hbd2 ((f1.none _).trans b2) hv2 p2 s2
end Go.Proofs.YtbkhielalbbopaaGreatDoor.Wb
