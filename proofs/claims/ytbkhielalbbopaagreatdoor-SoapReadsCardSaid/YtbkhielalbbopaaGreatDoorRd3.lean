/- Read: the program's, the reference's. -/
import Derived.Test.YtbkhielalbbopaaGreatDoorRb9
import Derived.Test.YtbkhielalbbopaaGreatDoorM4
import Derived.Test.YtbkhielalbbopaaGreatDoorM5
import Derived.Stop.LaidErr
import Derived.Lib.LaidU8T
import Derived.PinnedBridge
set_option linter.unusedSimpArgs false
set_option linter.unusedVariables false
set_option linter.unusedSectionVars false
set_option linter.unnecessarySimpa false
set_option maxRecDepth 100000
namespace Go.Proofs.YtbkhielalbbopaaGreatDoor.Wb
open Go Go.Am Go.Am.Xm
abbrev Ag := Bs × Bs
def encA (a : Ag) : List V := [.s a.1, .s a.2]
theorem encA_len (a : Ag) : (encA a).length = 2 := rfl
structure CaS (el st : TypeId) (hS h : H) (cv rv : Nat) (nm : Bs) (ag : List Ag) : Prop where
 f : But hS h none
 c0 : hS.next ≤ cv
 c1 : cv < h.next
 r1 : rv < h.next
 ne : cv ≠ rv
 rb : ∃ cs, h.mem.get rv = some (.c cs st true) ∧ cs.length = 2
 k : ∃ kv, h.mem.get cv = some (.c [.s nm, kv] st true) ∧ VecE h kv el 2 encA ag ∧ (∀ q, vblk kv = some q → hS.next ≤ q ∧ q < h.next ∧ q ≠ cv ∧ q ≠ rv)
section
variable {el st : TypeId} {hS h : H} {cv rv : Nat} {nm : Bs} {ag : List Ag}
theorem CaS.keep {h' : H} (T : CaS el st hS h cv rv nm ag) (f : But h h' none) : CaS el st hS h' cv rv nm ag := by
 obtain ⟨f0, c0, c1, r1, ne, ⟨cs, b1, b2⟩, kv, k1, k2, k3⟩ := T
 exact ⟨f0.trans f, c0, Nat.lt_of_lt_of_le c1 f.1, Nat.lt_of_lt_of_le r1 f.1, ne, ⟨cs, f.get r1 (by simp) b1, b2⟩, kv, f.get c1 (by simp) k1, k2.keep (fun q hq => (k3 q hq).2.1) f (.inr rfl), fun q hq => by
  have := k3 q hq
  exact ⟨this.1, Nat.lt_of_lt_of_le this.2.1 f.1, this.2.2⟩⟩
theorem oneK {v : V} {h : H} {el : TypeId} {ag : List Ag} (k : VecE h v el 2 encA ag) : oneV v = true := by
 obtain ⟨_, ⟨h1, _⟩ | ⟨_, _, _, _, h1, _⟩⟩ := k <;> rw [h1] <;> rfl
theorem CaS.add {sl : TypeId} {i j : TI} (hsl : (mkX Tryz.prog).tt.get sl = some i) (hik : i.k = .sl el) (hel : (mkX Tryz.prog).tt.get el = some j) (hj : j.sz = 2) (hy : j.by_ ≤ 100) (hz : j.zero = [.s [], .s []]) {a b : Bs} (hbl : blW (mkX Tryz.prog) el [(0, .s a), (1, .s b)] = some (.a [.s a, .s b]))
  (T : CaS el st hS h cv rv nm ag) (ha : ag.length < 100000) {kv : V} (hkv : h.mem.get cv = some (.c [.s nm, kv] st true)) {κ : H → Prop} (k : ∀ h', CaS el st hS h' cv rv nm (ag ++ [(a, b)]) → κ h') :
  pw.bl (mkX Tryz.prog) el [(0, .s a), (1, .s b)] fun v80 => pw.bs (mkX Tryz.prog) sl 1 [(0, v80)] h fun v81 h81 => pw.ap (mkX Tryz.prog) sl sl kv v81 h81 fun v82 h82 => pw.fa 1 (.p cv 0) fun v83 => pw.s1 v83 v82 h82 κ := by
 refine bl_a hbl ?_
 refine bs_a (cs := encA (a, b)) (l := [(0 * 2, .a (encA (a, b)))]) hsl hik hel (by rw [hj]; decide) (by rw [hj]; rfl) (by rw [hz]; rfl) fun q2 h2 g2 f2 _ _ => ?_
 have T2 := T.keep f2
 obtain ⟨kv', k1, k2, k3⟩ := T2.k
 have hk := f2.get T.c1 (by simp) hkv
 rw [k1] at hk
 have hkk : kv' = kv := by simpa using hk
 subst hkk
 refine ap_vec (cs := encA (a, b)) (m := 1) hsl hik hel hsl (by intro k e; rw [hik] at e; cases e) rfl ?_ (by rw [hj]; exact k2) (by rw [hj]; rfl) rfl (Nat.le_trans (Nat.mul_le_mul (show ag.length + 1 ≤ 100001 by omega) hy) (by decide)) (by unfold most; omega) fun v4 h4 hv4 f4 hq4 => ?_
 ·simp only [fcells, g2, hj]
  rfl
 rw [hj] at hv4
 have hv4 : VecE h4 v4 el 2 encA (ag ++ [(a, b)]) := by
  unfold VecE
  rw [encs_app, encs_one, List.length_append]
  exact hv4
 have kc : vblk kv' ≠ some cv := fun e => (k3 cv e).2.2.1 rfl
 have kr : vblk kv' ≠ some rv := fun e => (k3 rv e).2.2.2 rfl
 have n4 := f4.1
 have c2 := T2.c1
 have r2 := T2.r1
 have nS := T2.f.1
 have gc4 := f4.get c2 (fun e => kc e.symm) k1
 simp only [fa_p, Nat.zero_add]
 refine s1_a (o := 1) gc4 (by simp) (oneK hv4) fun h5 g5 f5 => ?_
 have n5 := f5.1
 have c0 := T2.c0
 have v4q : ∀ q, vblk v4 = some q → hS.next ≤ q ∧ q < h4.next ∧ q ≠ cv ∧ q ≠ rv := by
  intro q hq
  rcases hq4 with e4 | ⟨e4, e4'⟩
  ·rw [e4] at hq
   have hc := k3 q hq
   exact ⟨hc.1, by omega, hc.2.2⟩
  ·rw [e4] at hq
   cases hq
   exact ⟨by omega, e4', by omega, by omega⟩
 obtain ⟨cs, b1, b2⟩ := T2.rb
 exact k h5 ⟨(T2.f.over f4 (.inr fun z hz => (k3 z hz).1)).over f5 (.inr fun z e => by cases e; exact c0), c0, by omega, by omega, T2.ne, ⟨cs, f5.get (by omega) (fun e => T2.ne (Option.some.inj e).symm) (f4.get r2 (fun e => kr e.symm) b1), b2⟩, v4, g5, hv4.keep (fun q hq => (v4q q hq).2.1) f5 (.inl fun e => (v4q cv e).2.2.1 rfl), fun q hq => by
  have := v4q q hq
  exact ⟨this.1, by omega, this.2.2⟩⟩
theorem CaS.fin (T : CaS el st hS h cv rv nm ag) {κ : V → H → Prop} (k : ∀ h' kv, But hS h none → But h h' (some rv) → VecE h' kv el 2 encA ag → (∀ z, vblk kv = some z → hS.next ≤ z ∧ z < h'.next) → κ (.a [.s nm, kv]) h') :
  pw.ln 2 (.p cv 0) h fun v38 => pw.sn 2 (.p rv 0) v38 h fun h39 => pw.ln 2 (.p rv 0) h39 fun v41 => κ v41 h39 := by
 obtain ⟨f0, c0, c1, r1, ne, ⟨cs, b1, b2⟩, kv, k1, k2, k3⟩ := T
 rw [ln_w (sz := 2) k1 rfl]
 refine sn_w b1 (cs := [.s nm, kv]) rfl rfl b2 (by show (true && (oneV kv && true)) = true; rw [oneK k2]; rfl) fun h1 hg f => ?_
 rw [ln_w (sz := 2) hg rfl]
 exact k h1 kv f0 f (k2.keep (fun q hq => (k3 q hq).2.1) f (.inl fun e => (k3 rv e).2.2.2 rfl)) fun z hz => ⟨(k3 z hz).1, Nat.lt_of_lt_of_le (k3 z hz).2.1 f.1⟩
end
def bodyS : Bs := [66, 111, 100, 121]
def envS : Bs := [69, 110, 118, 101, 108, 111, 112, 101]
def readP (t : XT) (c : Int) : (Bs × List Ag) × Int := if c ≠ 0 then (([], []), c) else match kidN bodyS t.kids with
 | some (.node _ _ [u]) => if t.nm = envS then ((u.nm, u.kids.map fun x => (x.nm, x.tx)), 0) else (([], []), 4)
 | _ => (([], []), 4)
theorem kidN_mem {nm : Bs} : ∀ {ks : List XT} {u : XT}, kidN nm ks = some u → u ∈ ks
 | [], _, h => by cases h
 | t :: ts, u, h => by
  rw [kidN] at h
  split at h
  ·cases h; exact List.mem_cons_self
  ·exact List.mem_cons_of_mem _ (kidN_mem h)
theorem TrA.low {h : H} {N : Nat → Prop} {t : XT} {e : Te} (A : TrA h N t e) : TrA h (fun z => z < h.next) t e := A.keep ⟨Nat.le_refl _, fun _ _ _ => rfl⟩ fun _ hq _ => hq
theorem TsA.low {h : H} {N : Nat → Prop} {t : XT} {e : Te} (A : TsA h N t e) : TsA h (fun z => z < h.next) t e := A.keep ⟨Nat.le_refl _, fun _ _ _ => rfl⟩ fun _ hq _ => hq
set_option maxHeartbeats 8000000 in
theorem read_ok {n k : Nat} (hn : 17 + k ≤ n) (hk : k ≤ 100000) (hk1 : 1 ≤ k) {s : Bs} (hs : s.length ≤ 8192) {t : XT} {c : Int} (e : parseP k s = some (t, c)) (hft : fitT k t) {h : H} (L : Low h) (TT : TB h) {K : V → H → Prop}
  (kk : ∀ h' kv, But h h' none → VecE h' kv 49 2 encA (readP t c).1.2 → (∀ z, vblk kv = some z → h.next ≤ z ∧ z < h'.next) → K (.t [.a [.s (readP t c).1.1, kv], .i .i64 (readP t c).2]) h') : Ok Tryz.prog n 9 [.s s] h K := by
 obtain ⟨n, rfl⟩ := Nat.exists_eq_add_of_le' (show 1 ≤ n by omega)
 refine Ok.bd (K9 fun hbd => ?_)
 unfold F9
 refine al_a tt25 fun rv h1 g1 f1 v1 v2 => ?_
 simp only [cf_k]
 refine parse_ok (by omega) hk hs e (L.keep f1 (fun q e => by cases e)) (TT.keep f1 (fun z e => by cases e)) fun h2 et f2 A2 => ?_
 simp only [ex_t, List.getElem?_cons_zero, List.getElem?_cons_succ, oP_some]
 have one2 := enc_one A2
 refine al_a tt63 fun tv h3 g3 f3 t1 t2 => ?_
 refine sn_w g3 (cs := encT et) rfl rfl rfl one2 fun h4 g4 f4 => ?_
 have f24 : But h2 h4 none := f3.over f4 (.inr fun y ey => by cases ey; exact t1)
 have f14 := f2.trans f24
 have f04 := f1.trans f14
 have gr4 := f14.get v2 (by simp) g1
 have rv4 : rv < h4.next := Nat.lt_of_lt_of_le v2 f14.1
 have zero : ∀ (h' : H) (co : Int), But h h' none → h'.mem.get rv = some (.c [.s [], .ns] 25 true) → (readP t c) = (([], []), co) →
   pw.bl (mkX Tryz.prog) 25 [] fun v110 => pw.sn 2 (.p rv 0) v110 h' fun h112 => pw.ln 2 (.p rv 0) h112 fun v114 => Bd h112 → K (.t [v114, .i .i64 co]) h112 := by
  intro h' co f' g' hr
  rw [hr] at kk
  refine bl_a (v := .a [.s [], .ns]) ?_ ?_
  ·unfold blW
   rw [ti_some _ tt25]
   rfl
  refine sn_w g' (cs := [.s [], .ns]) rfl rfl rfl rfl fun h5 g5 f5 => ?_
  rw [ln_w (sz := 2) g5 rfl]
  exact fun _ => kk h5 .ns (f'.over f5 (.inr fun z e => by cases e; exact v1)) ⟨rfl, .inl ⟨rfl, rfl⟩⟩ fun z hz => by cases hz
 rw [ne_i]
 by_cases hc : c = 0
 ·subst hc
  rw [decide_eq_true rfl, Bool.not_true, cd_f]
  unfold F9_12
  rw [ln_w (sz := 3) g4 rfl]
  have A4 := trS f24 A2.low
  simp only [c9]
  refine bs_a (cs := [.s bodyS]) (l := [(0 * 1, .s bodyS)]) tt59 rfl tt9 (by decide) rfl rfl fun qn h5 g5 f5 _ _ => ?_
  have A5 := trS f5 A4
  simp only [cf_k]
  obtain ⟨k, rfl⟩ := Nat.exists_eq_add_of_le' hk1
  have nmE : et.1 = t.nm := by
   cases t with
   | node _ _ _ => exact A2.1
  have main : ∀ (found : Bool) (eb : Te) (h6 : H), But h5 h6 none → (encT eb).all oneV = true →
    (∀ b, kidN bodyS t.kids = some b → found = true ∧ TrA h6 (fun z => h5.next ≤ z) b eb) → (kidN bodyS t.kids = none → found = false) →
    pw.al (mkX Tryz.prog) 63 h6 fun v21 h21 => pw.sn 3 v21 (.a (encT eb)) h21 fun h22 => pw.fa 0 (.p tv 0) fun v85 => pw.l1 v85 h22 fun v86 => pw.ne (mkX Tryz.prog) 9 v86 (.s envS) fun v87 => pw.g0 v87 (fun κ => κ (.b found) h22) h22 fun v90 h90 => pw.g0 v87 (fun κ => pw.nt v90 fun v91 => κ v91 h90) h90 fun v92 h92 => pw.pk v87 (.b true) v92 fun v93 => pw.g0 v93 (fun κ => pw.fa 2 v21 fun v95 => κ v95 h92) h92 fun v96 h96 => pw.g0 v93 (fun κ => pw.l1 v96 h96 fun v97 => κ v97 h96) h96 fun v98 h98 => pw.g0 v93 (fun κ => pw.ls (mkX Tryz.prog) 61 v98 fun v99 => κ v99 h98) h98 fun v100 h100 => pw.g0 v93 (fun κ => pw.ne (mkX Tryz.prog) 3 v100 (.i .i64 1) fun v101 => κ v101 h100) h100 fun v102 h102 => pw.pk v93 (.b true) v102 fun v103 => pw.cd v103 (pw.bl (mkX Tryz.prog) 25 [] fun v104 => pw.sn 2 (.p rv 0) v104 h102 fun h105 => pw.ln 2 (.p rv 0) h105 fun v107 => (fun v h => Bd h → K v h) (.t [v107, (.i .i64 4)]) h105) (F9_24 pw (mkX Tryz.prog) (Ok Tryz.prog n) (fun v h => Bd h → K v h) (.p rv 0) v21 h102) := by
   intro found eb h6 f6 one6 hfound hnone
   refine al_a tt63 fun bv h7 g7 f7 b1 b2 => ?_
   refine sn_w g7 (cs := encT eb) rfl rfl rfl one6 fun h8 g8 f8 => ?_
   have f68 : But h6 h8 none := f7.over f8 (.inr fun y ey => by cases ey; exact b1)
   have f48 := (f5.trans f6).trans f68
   have f08 := f04.trans f48
   have gt8 := f48.get (Nat.lt_of_lt_of_le t2 f4.1) (by simp) g4
   have gr8 := f48.get rv4 (by simp) gr4
   simp only [fa_p, Nat.zero_add]
   rw [l1_a gt8 (x := .s et.1) rfl, ne_s, nmE]
   by_cases hnm : t.nm = envS
   ·rw [show (!(t.nm == envS)) = false by rw [hnm]; simp]
    simp only [g0_f, nt_b, pk_f]
    cases hkb : kidN bodyS t.kids with
    | none =>
     have hr : readP t 0 = (([], []), 4) := by unfold readP; rw [if_neg (by simp), hkb]
     rw [hnone hkb]
     simp only [Bool.not_false, g0_t, pk_t, cd_t]
     exact zero h8 4 f08 gr8 hr
    | some b =>
     obtain ⟨hf1, A6⟩ := hfound b hkb
     rw [hf1]
     have A8 := trSS f68 (A6.low)
     cases b with
     | node b1' b2' bk =>
      obtain ⟨a1, a2, es, a3, a4, a5⟩ := A8
      simp only [Bool.not_true, g0_f, fa_p, Nat.zero_add]
      rw [l1_a g8 (x := eb.2.2) rfl]
      try simp only [g0_f]
      rw [vece_len tt61 rfl a3]
      simp only [g0_f, ne_i, pk_f]
      have hes := a5.len
      match bk, hkb, a5, hes with
      | [], hkb, a5, hes =>
       rw [hes]
       have hr : readP t 0 = (([], []), 4) := by unfold readP; rw [if_neg (by simp), hkb]
       rw [decide_eq_false (by simp), Bool.not_false, cd_t]
       exact zero h8 4 f08 gr8 hr
      | _ :: _ :: _, hkb, a5, hes =>
       have hr : readP t 0 = (([], []), 4) := by unfold readP; rw [if_neg (by simp), hkb]
       rw [decide_eq_false (by rw [hes]; simp only [List.length_cons]; omega), Bool.not_false, cd_t]
       exact zero h8 4 f08 gr8 hr
      | [u], hkb, a5, hes =>
       rw [decide_eq_true (by rw [hes]; rfl), Bool.not_true, cd_f]
       have hr : readP t 0 = ((u.nm, u.kids.map fun x => (x.nm, x.tx)), 0) := by unfold readP; rw [if_neg (by simp), hkb]; simp only; rw [if_pos hnm]
       rw [hr] at kk
       obtain ⟨eu, es', hes1, Au, As⟩ := a5
       have hes2 : es' = [] := As
       subst hes2
       subst hes1
       have hfu : u.kids.length < 50000 := by
        have hft2 : fitT (k + 1) t := hft
        cases t with
        | node ta tb tk =>
         obtain ⟨_, q1⟩ := hft2
         have q2 := q1 _ (kidN_mem hkb)
         cases k with
         | zero => exact q2.elim
         | succ k =>
          obtain ⟨_, q3⟩ := q2
          have q4 := q3 u List.mem_cons_self
          cases k with
          | zero => exact q4.elim
          | succ k =>
           cases u with
           | node _ _ _ => exact q4.1
       unfold F9_24
       simp only [fa_p, Nat.zero_add]
       rw [l1_a g8 (x := eb.2.2) rfl]
       refine vece_at encT_len a3 (i := 0) rfl (by simp) fun bk hat => ?_
       simp only [List.getElem_cons_zero, fa_p, Nat.zero_mul, Nat.zero_add] at hat ⊢
       rw [hat.get0 (x := .s eu.1) rfl]
       have nmU : eu.1 = u.nm := by
        cases u with
        | node _ _ _ => exact Au.1
       rw [nmU]
       refine bl_a (v := .a [.s u.nm, .ns]) ?_ ?_
       ·unfold blW
        rw [ti_some _ tt25]
        rfl
       refine al_a tt25 fun cv h9 g9 f9 c1 c2 => ?_
       refine sn_w g9 (cs := [.s u.nm, .ns]) rfl rfl rfl rfl fun h10 g10 f10 => ?_
       have f810 : But h8 h10 none := f9.over f10 (.inr fun y ey => by cases ey; exact c1)
       have g8' := f810.get (Nat.lt_of_lt_of_le b2 f8.1) (by simp) g8
       have a3' := a3.keep (fun z hz => (a4 z hz).2) f810 (.inr rfl)
       rw [l1_a g8' (x := eb.2.2) rfl]
       refine vece_at encT_len a3' (i := 0) rfl (by simp) fun bk2 hat2 => ?_
       simp only [List.getElem_cons_zero, fa_p, Nat.zero_mul, Nat.zero_add] at hat2 ⊢
       rw [show (.p bk2 2 : V) = .p bk2 (0 + 2) from rfl, hat2.get (f := 2) (x := eu.2.2) rfl]
       have Au' := Au.low
       cases u with
       | node u1 u2 uk =>
        obtain ⟨w1, w2, us, w3, w4, w5⟩ := Au'
        rw [vece_len tt61 rfl (w3.keep (fun z hz => (w4 z hz).2) f810 (.inr rfl))]
        have hus : us.length = uk.length := w5.len
        have hfk : uk.length < 50000 := hfu
        have C0 : CaS 49 25 h8 h10 cv rv u1 [] := ⟨f810, c1, Nat.lt_of_lt_of_le c2 f10.1, Nat.lt_of_lt_of_le rv4 (Nat.le_trans f48.1 f810.1), by have := f48.1; omega, ⟨_, f810.get (Nat.lt_of_lt_of_le rv4 f48.1) (by simp) gr8, rfl⟩, .ns, g10, ⟨rfl, .inl ⟨rfl, rfl⟩⟩, (fun q hq => by cases hq)⟩
        have go : ∀ (m : Nat) (pre rest : List Te) (ks1 ks2 : List XT) (h' : H), rest.length < m → us = pre ++ rest → uk = ks1 ++ ks2 → TrsA h8 (fun z => z < h8.next) ks2 rest → pre.length = ks1.length → CaS 49 25 h8 h' cv rv u1 (ks1.map fun x => (x.nm, x.tx)) →
          F9_49 pw (mkX Tryz.prog) (Ok Tryz.prog n) (fun v h => Bd h → K v h) m (.p rv 0) (.p cv 0) eu.2.2 (.i .i64 us.length) (.i .i64 pre.length) h' := by
         intro m
         induction m with
         | zero => intro pre rest ks1 ks2 h' hm; omega
         | succ m ih =>
          intro pre rest ks1 ks2 h' hm he hks hT hpl C
          rw [S9_49, lt_i]
          match ks2, rest, hT with
          | [], rest, hT =>
           have hr : rest = [] := hT
           subst hr
           have hlen : us.length = pre.length := by rw [he]; simp
           rw [decide_eq_false (show ¬ (pre.length : Int) < us.length by omega), cd_f]
           unfold F9_35
           rw [List.append_nil] at hks
           subst hks
           exact C.fin fun h1' kv fa fb v'' q'' _ => kk h1' kv ((f08.trans fa).over fb (.inr fun z e => by cases e; exact v1)) v'' fun z hz => ⟨Nat.le_trans f08.1 (q'' z hz).1, (q'' z hz).2⟩
          | t1 :: ts, rest, ⟨e1, rest', hr, A1, As⟩ =>
           subst hr
           have hlen : us.length = pre.length + rest'.length + 1 := by rw [he]; simp; omega
           rw [decide_eq_true (show (pre.length : Int) < us.length by omega), cd_t]
           unfold F9_56
           have hget : us[pre.length]'(by omega) = e1 := by
            simp only [he]
            rw [List.getElem_append_right (Nat.le_refl _)]
            simp
           refine vece_at encT_len (w3.keep (fun z hz => (w4 z hz).2) C.f (.inr rfl)) (i := pre.length) rfl (by omega) fun bk3 hat3 => ?_
           rw [hget] at hat3
           rw [hat3.all]
           refine al_a tt63 fun x1 h11 g11 f11 x2 x3 => ?_
           refine sn_w g11 (cs := encT e1) rfl rfl rfl (enc_one A1) fun h12 g12 f12 => ?_
           have f112 : But h' h12 none := f11.over f12 (.inr fun y ey => by cases ey; exact x2)
           have C12 := C.keep f112
           obtain ⟨kv, k1, k2, k3⟩ := C12.k
           simp only [fa_p, Nat.zero_add]
           rw [l1_a k1 (x := kv) rfl, l1_a g12 (x := .s e1.1) rfl, l1_a g12 (x := .s e1.2.1) rfl]
           have en : e1.1 = t1.nm ∧ e1.2.1 = t1.tx := by
            cases t1 with
            | node _ _ _ => exact ⟨A1.1, A1.2.1⟩
           rw [en.1, en.2]
           have hkl := congrArg List.length hks
           rw [List.length_append, List.length_cons] at hkl
           refine C12.add tt23 rfl tt49 rfl (by decide) rfl ?_ (by rw [List.length_map]; omega) k1 fun h13 C13 => ?_
           ·unfold blW
            rw [ti_some _ tt49]
            rfl
           unfold F9_62
           rw [ad_64 (by omega), show (pre.length : Int) + 1 = ((pre ++ [e1]).length : Nat) by simp]
           refine ih (pre ++ [e1]) rest' (ks1 ++ [t1]) ts h13 (by simp only [List.length_cons] at hm; omega) (by rw [he]; simp) (by rw [hks]; simp) As (by simp [hpl]) (by rw [List.map_append]; exact C13)
        exact go 100000 [] us [] uk h10 (by omega) rfl rfl w5 rfl C0
   ·rw [show (!(t.nm == envS)) = true by simpa using hnm]
    have hr : readP t 0 = (([], []), 4) := by
     unfold readP
     rw [if_neg (by simp)]
     split
     ·rw [if_neg hnm]
     ·rfl
    simp only [g0_t, pk_t, cd_t]
    exact zero h8 4 f08 gr8 hr
  refine find1_ok (k := k) (nm := bodyS) (by omega) A5 hft g5 (fun u h6 e6 hkid f6 A6 => ?_) (fun h6 hkid f6 => ?_)
  ·simp only [ex_t, List.getElem?_cons_zero, List.getElem?_cons_succ, oP_some]
   exact main true e6 h6 f6 (enc_one A6) (fun b hb => by rw [hkid] at hb; cases hb; exact ⟨rfl, A6⟩) (fun hb => by rw [hkid] at hb; cases hb)
  ·simp only [ex_t, List.getElem?_cons_zero, List.getElem?_cons_succ, oP_some]
   exact main false ([], [], .ns) h6 f6 rfl (fun b hb => by rw [hkid] at hb; cases hb) (fun _ => rfl)
 ·rw [decide_eq_false hc, Bool.not_false, cd_t]
  refine zero h4 c f04 gr4 ?_
  unfold readP
  rw [if_pos hc]
theorem tsS {hS h : H} (f : But hS h none) {t : XT} {e : Te} (A : TsA hS (fun z => z < hS.next) t e) : TsA h (fun z => z < h.next) t e :=
 A.keep ⟨f.1, fun q hq _ => f.2.1 q hq (by simp)⟩ fun q hq _ => Nat.lt_of_lt_of_le hq f.1
set_option maxHeartbeats 8000000 in
theorem read' {n k : Nat} (hn : 17 + k ≤ n) (hk : k ≤ 100000) (hk1 : 1 ≤ k) {s : Bs} (hs : s.length ≤ 8192) {t : XT} {c : Int} (e : parseP k s = some (t, c)) (hft : fitT k t) {h : H} {K : V → H → Prop}
  (kk : ∀ h' kv, But h h' none → VecE h' kv 82 2 encA (readP t c).1.2 → (∀ z, vblk kv = some z → h.next ≤ z ∧ z < h'.next) → K (.t [.a [.s (readP t c).1.1, kv], .i .i64 (readP t c).2]) h') : Ok Tryz.prog n 10 [.s s] h K := by
 obtain ⟨n, rfl⟩ := Nat.exists_eq_add_of_le' (show 1 ≤ n by omega)
 refine Ok.bd (K10 fun hbd => ?_)
 unfold F10
 refine al_a tt31 fun rv h1 g1 f1 v1 v2 => ?_
 simp only [cf_k]
 refine parse' (by omega) hk hk1 hs e fun h2 et t' f2 A2 ht' => ?_
 simp only [ex_t, List.getElem?_cons_zero, List.getElem?_cons_succ, oP_some]
 have one2 := enc_oneS A2
 refine al_a tt77 fun tv h3 g3 f3 t1 t2 => ?_
 refine sn_w g3 (cs := encT et) rfl rfl rfl one2 fun h4 g4 f4 => ?_
 have f24 : But h2 h4 none := f3.over f4 (.inr fun y ey => by cases ey; exact t1)
 have f14 := f2.trans f24
 have f04 := f1.trans f14
 have gr4 := f14.get v2 (by simp) g1
 have rv4 : rv < h4.next := Nat.lt_of_lt_of_le v2 f14.1
 have zero : ∀ (h' : H) (co : Int), But h h' none → h'.mem.get rv = some (.c [.s [], .ns] 31 true) → (readP t c) = (([], []), co) →
   pw.bl (mkX Tryz.prog) 31 [] fun v110 => pw.sn 2 (.p rv 0) v110 h' fun h112 => pw.ln 2 (.p rv 0) h112 fun v114 => Bd h112 → K (.t [v114, .i .i64 co]) h112 := by
  intro h' co f' g' hr
  rw [hr] at kk
  refine bl_a (v := .a [.s [], .ns]) ?_ ?_
  ·unfold blW
   rw [ti_some _ tt31]
   rfl
  refine sn_w g' (cs := [.s [], .ns]) rfl rfl rfl rfl fun h5 g5 f5 => ?_
  rw [ln_w (sz := 2) g5 rfl]
  exact fun _ => kk h5 .ns (f'.over f5 (.inr fun z e => by cases e; exact v1)) ⟨rfl, .inl ⟨rfl, rfl⟩⟩ fun z hz => by cases hz
 rw [ne_i]
 by_cases hc : c = 0
 ·have := ht' hc
  subst this
  subst hc
  rw [decide_eq_true rfl, Bool.not_true, cd_f]
  unfold F10_12
  rw [ln_w (sz := 3) g4 rfl]
  have A4 := tsS f24 A2.low
  simp only [c10]
  refine bs_a (cs := [.s bodyS]) (l := [(0 * 1, .s bodyS)]) tt59 rfl tt9 (by decide) rfl rfl fun qn h5 g5 f5 _ _ => ?_
  have A5 := tsS f5 A4
  simp only [cf_k]
  obtain ⟨k, rfl⟩ := Nat.exists_eq_add_of_le' hk1
  have nmE : et.1 = t'.nm := by
   cases t' with
   | node _ _ _ => exact A2.1
  have hkids : t'.kids.length < 50000 := by
   have hft2 : fitT (k + 1) t' := hft
   cases t' with
   | node _ _ _ => exact hft2.1
  have main : ∀ (found : Bool) (eb : Te) (h6 : H), But h5 h6 none → (encT eb).all oneV = true →
    (∀ b, kidN bodyS t'.kids = some b → found = true ∧ TsA h6 (fun z => z < h5.next) b eb) → (kidN bodyS t'.kids = none → found = false) →
    pw.al (mkX Tryz.prog) 77 h6 fun v21 h21 => pw.sn 3 v21 (.a (encT eb)) h21 fun h22 => pw.fa 0 (.p tv 0) fun v90 => pw.l1 v90 h22 fun v91 => pw.ne (mkX Tryz.prog) 9 v91 (.s envS) fun v92 => pw.g0 v92 (fun κ => κ (.b found) h22) h22 fun v95 h95 => pw.g0 v92 (fun κ => pw.nt v95 fun v96 => κ v96 h95) h95 fun v97 h97 => pw.pk v92 (.b true) v97 fun v98 => pw.g0 v98 (fun κ => pw.fa 2 v21 fun v100 => κ v100 h97) h97 fun v101 h101 => pw.g0 v98 (fun κ => pw.l1 v101 h101 fun v102 => κ v102 h101) h101 fun v103 h103 => pw.g0 v98 (fun κ => pw.ls (mkX Tryz.prog) 75 v103 fun v104 => κ v104 h103) h103 fun v105 h105 => pw.g0 v98 (fun κ => pw.ne (mkX Tryz.prog) 3 v105 (.i .i64 1) fun v106 => κ v106 h105) h105 fun v107 h107 => pw.pk v98 (.b true) v107 fun v108 => pw.cd v108 (pw.bl (mkX Tryz.prog) 31 [] fun v109 => pw.sn 2 (.p rv 0) v109 h107 fun h110 => pw.ln 2 (.p rv 0) h110 fun v112 => (fun v h => Bd h → K v h) (.t [v112, (.i .i64 4)]) h110) (F10_24 pw (mkX Tryz.prog) (Ok Tryz.prog n) (fun v h => Bd h → K v h) (.p rv 0) v21 h107) := by
   intro found eb h6 f6 one6 hfound hnone
   refine al_a tt77 fun bv h7 g7 f7 b1 b2 => ?_
   refine sn_w g7 (cs := encT eb) rfl rfl rfl one6 fun h8 g8 f8 => ?_
   have f68 : But h6 h8 none := f7.over f8 (.inr fun y ey => by cases ey; exact b1)
   have f48 := (f5.trans f6).trans f68
   have f08 := f04.trans f48
   have gt8 := f48.get (Nat.lt_of_lt_of_le t2 f4.1) (by simp) g4
   have gr8 := f48.get rv4 (by simp) gr4
   simp only [fa_p, Nat.zero_add]
   rw [l1_a gt8 (x := .s et.1) rfl, ne_s, nmE]
   by_cases hnm : t'.nm = envS
   ·rw [show (!(t'.nm == envS)) = false by rw [hnm]; simp]
    simp only [g0_f, nt_b, pk_f]
    cases hkb : kidN bodyS t'.kids with
    | none =>
     have hr : readP t' 0 = (([], []), 4) := by unfold readP; rw [if_neg (by simp), hkb]
     rw [hnone hkb]
     simp only [Bool.not_false, g0_t, pk_t, cd_t]
     exact zero h8 4 f08 gr8 hr
    | some b =>
     obtain ⟨hf1, A6⟩ := hfound b hkb
     rw [hf1]
     have A8 := tsSS f68 (A6.low)
     cases b with
     | node b1' b2' bk =>
      obtain ⟨a1, a2, es, a3, a4, a5⟩ := A8
      simp only [Bool.not_true, g0_f, fa_p, Nat.zero_add]
      rw [l1_a g8 (x := eb.2.2) rfl]
      try simp only [g0_f]
      rw [vece_len tt75 rfl a3]
      simp only [g0_f, ne_i, pk_f]
      have hes := a5.len
      match bk, hkb, a5, hes with
      | [], hkb, a5, hes =>
       rw [hes]
       have hr : readP t' 0 = (([], []), 4) := by unfold readP; rw [if_neg (by simp), hkb]
       rw [decide_eq_false (by simp), Bool.not_false, cd_t]
       exact zero h8 4 f08 gr8 hr
      | _ :: _ :: _, hkb, a5, hes =>
       have hr : readP t' 0 = (([], []), 4) := by unfold readP; rw [if_neg (by simp), hkb]
       rw [decide_eq_false (by rw [hes]; simp only [List.length_cons]; omega), Bool.not_false, cd_t]
       exact zero h8 4 f08 gr8 hr
      | [u], hkb, a5, hes =>
       rw [decide_eq_true (by rw [hes]; rfl), Bool.not_true, cd_f]
       have hr : readP t' 0 = ((u.nm, u.kids.map fun x => (x.nm, x.tx)), 0) := by unfold readP; rw [if_neg (by simp), hkb]; simp only; rw [if_pos hnm]
       rw [hr] at kk
       obtain ⟨eu, es', hes1, Au, As⟩ := a5
       have hes2 : es' = [] := As
       subst hes2
       subst hes1
       have hfu : u.kids.length < 50000 := by
        have hft2 : fitT (k + 1) t' := hft
        cases t' with
        | node ta tb tk =>
         obtain ⟨_, q1⟩ := hft2
         have q2 := q1 _ (kidN_mem hkb)
         cases k with
         | zero => exact q2.elim
         | succ k =>
          obtain ⟨_, q3⟩ := q2
          have q4 := q3 u List.mem_cons_self
          cases k with
          | zero => exact q4.elim
          | succ k =>
           cases u with
           | node _ _ _ => exact q4.1
       unfold F10_24
       simp only [fa_p, Nat.zero_add]
       rw [l1_a g8 (x := eb.2.2) rfl]
       refine vece_at encT_len a3 (i := 0) rfl (by simp) fun bk hat => ?_
       simp only [List.getElem_cons_zero, fa_p, Nat.zero_mul, Nat.zero_add] at hat ⊢
       rw [hat.get0 (x := .s eu.1) rfl]
       have nmU : eu.1 = u.nm := by
        cases u with
        | node _ _ _ => exact Au.1
       rw [nmU]
       refine bl_a (v := .a [.s u.nm, .ns]) ?_ ?_
       ·unfold blW
        rw [ti_some _ tt31]
        rfl
       refine al_a tt31 fun cv h9 g9 f9 c1 c2 => ?_
       refine sn_w g9 (cs := [.s u.nm, .ns]) rfl rfl rfl rfl fun h10 g10 f10 => ?_
       have f810 : But h8 h10 none := f9.over f10 (.inr fun y ey => by cases ey; exact c1)
       have Au' := Au.low
       cases u with
       | node u1 u2 uk =>
        obtain ⟨w1, w2, us, w3, w4, w5⟩ := Au'
        have hus : us.length = uk.length := w5.len
        have hfk : uk.length < 50000 := hfu
        have C0 : CaS 82 31 h8 h10 cv rv u1 [] := ⟨f810, c1, Nat.lt_of_lt_of_le c2 f10.1, Nat.lt_of_lt_of_le rv4 (Nat.le_trans f48.1 f810.1), by have := f48.1; omega, ⟨_, f810.get (Nat.lt_of_lt_of_le rv4 f48.1) (by simp) gr8, rfl⟩, .ns, g10, ⟨rfl, .inl ⟨rfl, rfl⟩⟩, (fun q hq => by cases hq)⟩
        have bv8 : bv < h8.next := Nat.lt_of_lt_of_le b2 f8.1
        have go : ∀ (m : Nat) (pre rest : List Te) (ks1 ks2 : List XT) (h' : H), rest.length < m → us = pre ++ rest → uk = ks1 ++ ks2 → TssA h8 (fun z => z < h8.next) ks2 rest → pre.length = ks1.length → CaS 82 31 h8 h' cv rv u1 (ks1.map fun x => (x.nm, x.tx)) →
          F10_43 pw (mkX Tryz.prog) (Ok Tryz.prog n) (fun v h => Bd h → K v h) m (.p rv 0) (.p bv 0) (.p cv 0) (.i .i64 pre.length) h' := by
         intro m
         induction m with
         | zero => intro pre rest ks1 ks2 h' hm; omega
         | succ m ih =>
          intro pre rest ks1 ks2 h' hm he hks hT hpl C
          have g8' := C.f.get bv8 (by simp) g8
          have a3' := a3.keep (fun z hz => (a4 z hz).2) C.f (.inr rfl)
          have w3' := w3.keep (fun z hz => (w4 z hz).2) C.f (.inr rfl)
          have first : ∀ κ : V → Prop, κ eu.2.2 → pw.fa 2 (.p bv 0) fun v83 => pw.l1 v83 h' fun v84 => pw.is 3 v84 (.i .i64 0) fun v85 => pw.fa 2 v85 fun v86 => pw.l1 v86 h' κ := by
           intro κ hκ
           simp only [fa_p, Nat.zero_add]
           rw [l1_a g8' (x := eb.2.2) rfl]
           refine vece_at encT_len a3' (i := 0) rfl (by simp) fun bk2 hat2 => ?_
           simp only [List.getElem_cons_zero, fa_p, Nat.zero_mul, Nat.zero_add] at hat2 ⊢
           rw [show (.p bk2 2 : V) = .p bk2 (0 + 2) from rfl, hat2.get (f := 2) (x := eu.2.2) rfl]
           exact hκ
          rw [S10_43]
          refine first _ ?_
          rw [vece_len tt75 rfl w3', lt_i]
          match ks2, rest, hT with
          | [], rest, hT =>
           have hr : rest = [] := hT
           subst hr
           have hlen : us.length = pre.length := by rw [he]; simp
           rw [decide_eq_false (show ¬ (pre.length : Int) < us.length by omega), cd_f]
           unfold F10_35
           rw [List.append_nil] at hks
           subst hks
           exact C.fin fun h1' kv fa fb v'' q'' _ => kk h1' kv ((f08.trans fa).over fb (.inr fun z e => by cases e; exact v1)) v'' fun z hz => ⟨Nat.le_trans f08.1 (q'' z hz).1, (q'' z hz).2⟩
          | t1 :: ts, rest, ⟨e1, rest', hr, A1, As⟩ =>
           subst hr
           have hlen : us.length = pre.length + rest'.length + 1 := by rw [he]; simp; omega
           rw [decide_eq_true (show (pre.length : Int) < us.length by omega), cd_t]
           unfold F10_48
           refine first _ ?_
           have hget : us[pre.length]'(by omega) = e1 := by
            simp only [he]
            rw [List.getElem_append_right (Nat.le_refl _)]
            simp
           refine vece_at encT_len w3' (i := pre.length) rfl (by omega) fun bk3 hat3 => ?_
           rw [hget] at hat3
           rw [hat3.all]
           refine al_a tt77 fun x1 h11 g11 f11 x2 x3 => ?_
           refine sn_w g11 (cs := encT e1) rfl rfl rfl (enc_oneS A1) fun h12 g12 f12 => ?_
           have f112 : But h' h12 none := f11.over f12 (.inr fun y ey => by cases ey; exact x2)
           have C12 := C.keep f112
           obtain ⟨kv, k1, k2, k3⟩ := C12.k
           simp only [fa_p, Nat.zero_add]
           rw [l1_a k1 (x := kv) rfl, l1_a g12 (x := .s e1.1) rfl, l1_a g12 (x := .s e1.2.1) rfl]
           have en : e1.1 = t1.nm ∧ e1.2.1 = t1.tx := by
            cases t1 with
            | node _ _ _ => exact ⟨A1.1, A1.2.1⟩
           rw [en.1, en.2]
           have hkl := congrArg List.length hks
           rw [List.length_append, List.length_cons] at hkl
           refine C12.add tt29 rfl tt82 rfl (by decide) rfl ?_ (by rw [List.length_map]; omega) k1 fun h13 C13 => ?_
           ·unfold blW
            rw [ti_some _ tt82]
            rfl
           unfold F10_53
           rw [ad_64 (by omega), show (pre.length : Int) + 1 = ((pre ++ [e1]).length : Nat) by simp]
           exact ih (pre ++ [e1]) rest' (ks1 ++ [t1]) ts h13 (by simp only [List.length_cons] at hm; omega) (by rw [he]; simp) (by rw [hks]; simp) As (by simp [hpl]) (by rw [List.map_append]; exact C13)
        exact go 100000 [] us [] uk h10 (by omega) rfl rfl w5 rfl C0
   ·rw [show (!(t'.nm == envS)) = true by simpa using hnm]
    have hr : readP t' 0 = (([], []), 4) := by
     unfold readP
     rw [if_neg (by simp)]
     split
     ·rw [if_neg hnm]
     ·rfl
    simp only [g0_t, pk_t, cd_t]
    exact zero h8 4 f08 gr8 hr
  refine find' (nm := bodyS) (by omega) A5 hkids g5 (fun u h6 e6 hkid f6 A6 => ?_) (fun h6 hkid f6 => ?_)
  ·simp only [ex_t, List.getElem?_cons_zero, List.getElem?_cons_succ, oP_some]
   exact main true e6 h6 f6 (enc_oneS A6) (fun b hb => by rw [hkid] at hb; cases hb; exact ⟨rfl, A6⟩) (fun hb => by rw [hkid] at hb; cases hb)
  ·simp only [ex_t, List.getElem?_cons_zero, List.getElem?_cons_succ, oP_some]
   exact main false ([], [], .ns) h6 f6 rfl (fun b hb => by rw [hkid] at hb; cases hb) (fun _ => rfl)
 ·rw [decide_eq_false hc, Bool.not_false, cd_t]
  refine zero h4 c f04 gr4 ?_
  unfold readP
  rw [if_pos hc]
set_option maxHeartbeats 4000000 in
theorem call' {n : Nat} (hn : 1 ≤ n) {ag : List Ag} {a0 : Bs} {kv : V} {h : H} {K : V → H → Prop} (hv : VecE h kv 49 2 encA ag) (hb : ∀ z, vblk kv = some z → z < h.next) (hl : ag.length < 50000)
  (k : ∀ h' kv', But h h' none → VecE h' kv' 82 2 encA ag → (∀ z, vblk kv' = some z → z < h'.next) → K (.a [.s a0, kv']) h') : Ok Tryz.prog n 28 [.a [.s a0, kv]] h K := by
 obtain ⟨n, rfl⟩ := Nat.exists_eq_add_of_le' hn
 refine Ok.bd (K28 fun hbd => ?_)
 unfold F28
 refine bx_a (cs := [.s a0, kv]) rfl fun b h1 g1 f1 b1 b2 => ?_
 refine al_a tt31 fun rv h2 g2 f2 r1 r2 => ?_
 have g1' := f2.get b2 (by simp) g1
 simp only [fa_p, Nat.zero_add]
 rw [l1_a g1' (x := .s a0) rfl]
 refine bl_a (v := .a [.s a0, .ns]) ?_ ?_
 ·unfold blW
  rw [ti_some _ tt31]
  rfl
 refine al_a tt31 fun cv h3 g3 f3 c1 c2 => ?_
 refine sn_w g3 (cs := [.s a0, .ns]) rfl rfl rfl rfl fun h4 g4 f4 => ?_
 have f24 : But h2 h4 none := f3.over f4 (.inr fun y ey => by cases ey; exact c1)
 have f02 := f1.trans f2
 have f04 := f02.trans f24
 have hv2 := hv.keep hb f02 (.inr rfl)
 have C0 : CaS 82 31 h2 h4 cv rv a0 [] := ⟨f24, c1, Nat.lt_of_lt_of_le c2 f4.1, Nat.lt_of_lt_of_le r2 f24.1, by omega, ⟨_, f24.get r2 (by simp) g2, rfl⟩, .ns, g4, ⟨rfl, .inl ⟨rfl, rfl⟩⟩, (fun q hq => by cases hq)⟩
 have hb2 : ∀ z, vblk kv = some z → z < h2.next := fun z hz => Nat.lt_of_lt_of_le (hb z hz) f02.1
 have go : ∀ (m i : Nat) (h' : H), ag.length - i < m → i ≤ ag.length → CaS 82 31 h2 h' cv rv a0 (ag.take i) → F28_16 pw (mkX Tryz.prog) (Ok Tryz.prog n) (fun v h => Bd h → K v h) m (.p b 0) (.p rv 0) (.p cv 0) (.i .i64 i) h' := by
  intro m
  induction m with
  | zero => intro i h' hm; omega
  | succ m ih =>
   intro i h' hm hi C
   have gb := C.f.get (Nat.lt_of_lt_of_le b2 f2.1) (by simp) g1'
   have hv' := hv2.keep hb2 C.f (.inr rfl)
   rw [S28_16]
   simp only [fa_p, Nat.zero_add]
   rw [l1_a gb (x := kv) rfl, vece_len tt23 rfl hv', lt_i]
   by_cases hlt : i < ag.length
   ·rw [decide_eq_true (show (i : Int) < ag.length by omega), cd_t]
    unfold F28_21
    obtain ⟨kc, k1, k2, k3⟩ := C.k
    simp only [fa_p, Nat.zero_add]
    rw [l1_a k1 (x := kc) rfl, l1_a gb (x := kv) rfl]
    refine vece_at encA_len hv' (i := i) rfl hlt fun q1 hat => ?_
    simp only [fa_p]
    rw [hat.get (f := 0) (x := .s (ag[i]).1) rfl, l1_a gb (x := kv) rfl]
    refine vece_at encA_len hv' (i := i) rfl hlt fun q2 hat2 => ?_
    simp only [fa_p]
    rw [hat2.get (f := 1) (x := .s (ag[i]).2) rfl]
    refine C.add tt29 rfl tt82 rfl (by decide) rfl ?_ (by rw [List.length_take]; omega) k1 fun h5 C5 => ?_
    ·unfold blW
     rw [ti_some _ tt82]
     rfl
    unfold F28_26
    rw [ad_64 (by omega), show (i : Int) + 1 = ((i + 1 : Nat) : Int) by omega]
    refine ih (i + 1) h5 (by omega) (by omega) ?_
    rw [List.take_add_one, List.getElem?_eq_getElem hlt]
    exact C5
   ·rw [decide_eq_false (show ¬ (i : Int) < ag.length by omega), cd_f]
    unfold F28_9
    rw [List.take_of_length_le (by omega)] at C
    refine C.fin fun h1' kv' fa fb v'' q'' _ => k h1' kv' ((f02.trans fa).over fb (.inr fun z e => by cases e; omega)) v'' fun z hz => (q'' z hz).2
 exact go 100000 0 h4 (by omega) (by omega) C0
theorem bl25 {kv : V} {h : H} {ag : List Ag} (hv : VecE h kv 49 2 encA ag) : blW (mkX Tryz.prog) 25 [(1, kv)] = some (.a [.s [], kv]) := by
 obtain ⟨_, ⟨h1, _⟩ | ⟨_, _, _, _, h1, _⟩⟩ := hv <;> subst h1 <;> (unfold blW; rw [ti_some _ tt25]; rfl)
theorem ne_82 {a b : Bs} {κ : V → Prop} : pw.ne (mkX Tryz.prog) 82 (.a [.s a, .s b]) (.a [.s a, .s b]) κ = κ (.b false) := by
 simp only [pw, bin, ti_some _ tt82, eqOp, eqF, eqK, beq_self_eq_true, Bool.and_true, Bool.not_true, oP]
theorem same' {n : Nat} (hn : 1 ≤ n) {ag : List Ag} {u v : V} {h : H} {K : V → H → Prop} (hu : VecE h u 82 2 encA ag) (hv : VecE h v 82 2 encA ag) (hl : ag.length < 50000) (k : K (.b true) h) : Ok Tryz.prog n 11 [u, v] h K := by
 obtain ⟨n, rfl⟩ := Nat.exists_eq_add_of_le' hn
 refine Ok.bd (K11 fun hbd => ?_)
 unfold F11
 rw [vece_len tt29 rfl hu, vece_len tt29 rfl hv, ne_i, decide_eq_true rfl, Bool.not_true, cd_f]
 unfold F11_4
 have go : ∀ (m i : Nat), ag.length - i < m → i ≤ ag.length → F11_10 pw (mkX Tryz.prog) (Ok Tryz.prog n) (fun v h => Bd h → K v h) m u v (.i .i64 i) h := by
  intro m
  induction m with
  | zero => intro i hm; omega
  | succ m ih =>
   intro i hm hi
   rw [S11_10, vece_len tt29 rfl hu, lt_i]
   by_cases hlt : i < ag.length
   ·rw [decide_eq_true (show (i : Int) < ag.length by omega), cd_t]
    unfold F11_14
    refine vece_at encA_len hu (i := i) rfl hlt fun q1 hat => ?_
    rw [hat.all]
    refine vece_at encA_len hv (i := i) rfl hlt fun q2 hat2 => ?_
    rw [hat2.all]
    show pw.ne (mkX Tryz.prog) 82 (.a [.s (ag[i]).1, .s (ag[i]).2]) (.a [.s (ag[i]).1, .s (ag[i]).2]) _
    rw [ne_82, cd_f]
    unfold F11_18
    rw [ad_64 (by omega), show (i : Int) + 1 = ((i + 1 : Nat) : Int) by omega]
    exact ih (i + 1) (by omega) (by omega)
   ·rw [decide_eq_false (show ¬ (i : Int) < ag.length by omega), cd_f]
    unfold F11_7
    exact fun _ => k
 exact go 100000 0 (by omega) (by omega)
theorem readP_len {k : Nat} {t : XT} {c : Int} (hft : fitT k t) : (readP t c).1.2.length < 50000 := by
 unfold readP
 split
 ·simp
 split
 ·rename_i a b u hk
  split
  ·simp only [List.length_map]
   cases k with
   | zero => exact hft.elim
   | succ k =>
    cases t with
    | node ta tb tk =>
     obtain ⟨_, q1⟩ := hft
     have q2 := q1 _ (kidN_mem hk)
     cases k with
     | zero => exact q2.elim
     | succ k =>
      obtain ⟨_, q3⟩ := q2
      have q4 := q3 u List.mem_cons_self
      cases k with
      | zero => exact q4.elim
      | succ k =>
       cases u with
       | node _ _ _ => exact q4.1
  ·simp
 ·simp
set_option maxHeartbeats 4000000 in
theorem reads_law {n : Nat} (hn : 2600 ≤ n) {s : Bs} {h : H} (L : Low h) (TT : TB h) {K : V → H → Prop} (aw : ∀ {K : V → H → Prop}, (∀ h', But h h' none → K (.b true) h') → Ok Tryz.prog n 8 [] h K) (k : ∀ h', K (.b true) h') : Ok Tryz.prog (n + 1) 3 [.s s] h K := by
 refine Ok.bd (K3 fun hbd => ?_)
 unfold F3
 simp only [cf_k]
 refine aw fun h0 f0 => ?_
 rw [nt_b, Bool.not_true, cd_f]
 unfold F3_3
 rw [lg_s tt9 rfl, gt_i]
 by_cases hlen : 2500 < s.length
 ·rw [decide_eq_true (show (2500 : Int) < s.length by omega), cd_t]
  exact fun _ => k h0
 rw [decide_eq_false (show ¬ (2500 : Int) < s.length by omega), cd_f]
 unfold F3_5
 obtain ⟨t, c, e, hft⟩ := parseP_ex (s := s) (by omega)
 have hln := readP_len (c := c) hft
 simp only [cf_k]
 refine read_ok (k := s.length + 3) (by omega) (by omega) (by omega) (by omega) e hft (L.keep f0 (fun q e => by cases e)) (TT.keep f0 (fun z e => by cases e)) fun h1 kv f1 v1 q1 => ?_
 simp only [ex_t, List.getElem?_cons_zero, List.getElem?_cons_succ, oP_some]
 refine al_a tt25 fun x2 h2 g2 f2 x2a x2b => ?_
 refine sn_w g2 (cs := [.s (readP t c).1.1, kv]) rfl rfl rfl (by show (true && (oneV kv && true)) = true; rw [oneK v1]; rfl) fun h3 g3 f3 => ?_
 have f13 : But h1 h3 none := f2.over f3 (.inr fun y ey => by cases ey; exact x2a)
 try simp only [cf_k]
 refine read' (k := s.length + 3) (by omega) (by omega) (by omega) (by omega) e hft fun h4 kw f4 v4 q4 => ?_
 simp only [ex_t, List.getElem?_cons_zero, List.getElem?_cons_succ, oP_some]
 refine al_a tt31 fun x5 h5 g5 f5 x5a x5b => ?_
 refine sn_w g5 (cs := [.s (readP t c).1.1, kw]) rfl rfl rfl (by show (true && (oneV kw && true)) = true; rw [oneK v4]; rfl) fun h6 g6 f6 => ?_
 have f46 : But h4 h6 none := f5.over f6 (.inr fun y ey => by cases ey; exact x5a)
 have f36 := f4.trans f46
 have g3' := f36.get (Nat.lt_of_lt_of_le x2b f3.1) (by simp) g3
 have v1' := v1.keep (fun z hz => (q1 z hz).2) (f13.trans f36) (.inr rfl)
 have v4' := v4.keep (fun z hz => (q4 z hz).2) f46 (.inr rfl)
 have kvlt : ∀ z, vblk kv = some z → z < h6.next := fun z hz => Nat.lt_of_lt_of_le (q1 z hz).2 (f13.trans f36).1
 have kwlt : ∀ z, vblk kw = some z → z < h6.next := fun z hz => Nat.lt_of_lt_of_le (q4 z hz).2 f46.1
 rw [eq_i, decide_eq_true rfl]
 simp only [g1_t, fa_p, Nat.zero_add]
 rw [l1_a g3' (x := .s (readP t c).1.1) rfl]
 try simp only [g1_t, fa_p, Nat.zero_add]
 rw [l1_a g6 (x := .s (readP t c).1.1) rfl, eq_s]
 simp only [beq_self_eq_true, pk_t, g1_t, fa_p, Nat.zero_add]
 rw [l1_a g3' (x := kv) rfl]
 try simp only [g1_t, cf_k]
 have outs : ∀ {κ : V → H → Prop}, (∀ h' kx, But h6 h' none → VecE h' kx 82 2 encA (readP t c).1.2 → κ kx h') → keepC (Ok Tryz.prog n) 12 [kv] h6 κ := by
  intro κ hκ
  obtain ⟨n, rfl⟩ := Nat.exists_eq_add_of_le' (show 1 ≤ n by omega)
  refine Ok.bd (K12 fun hb6 => ?_)
  unfold F12
  refine bl_a (bl25 v1) ?_
  simp only [cf_k]
  refine call' (by omega) v1' kvlt hln fun h7 kx f7 v7 q7 => ?_
  rw [fd_1 (off := 1) (x := kx) rfl]
  exact fun _ => ⟨fun q hq => f7.2.1 q hq (by simp), hκ h7 kx f7 v7⟩
 refine outs fun h7 kx f7 v7 => ?_
 try simp only [g1_t, fa_p, Nat.zero_add]
 rw [l1_a g6 (x := kw) rfl]
 try simp only [g1_t, cf_k]
 refine same' (by omega) v7 (v4'.keep kwlt f7 (.inr rfl)) hln ?_
 try simp only [pk_t]
 exact fun _ => k h7
end Go.Proofs.YtbkhielalbbopaaGreatDoor.Wb

set_option maxRecDepth 100000
namespace Go.Am
open Go.ChangeShapes Go.WideShapes Go.ChangeAt Go.RowKit
open Go.Proofs.YtbkhielalbbopaaGreatDoor.Wb
def j5 (c d : Nat) : Inj := fun r => if r < 16 then some ⟨r, 0, 0, none⟩ else if r = 16 then some ⟨c, d, 0, none⟩ else none
theorem j5_go (c d : Nat) : GO (j5 c d) := fun g hg => by unfold j5; rw [if_pos hg]
def mem5 (m : Int) (tp : TypeId) : T B := (((T.l.put 4 (some (.c [.ic tp (.p 16 0)] 0 false))).put 1 (some (.c (accT.map (V.i .u8)) 0 false))).put 0 (some (.c (firstT.map (V.i .u8)) 0 false))).put 2 (some (.c [.i .i64 m] 0 false))
theorem hrel_five (P : Program) (w : World) {m : Int} {tp : TypeId} {a : Addr} (hs : a.spot = none) (h1 : w.cell? ⟨2, 0, none⟩ = some (.int .i64 m)) (h2 : w.cell? ⟨4, 0, none⟩ = some (.iface tp (.pointer (some a))))
  (h3 : LaidAt w [(0, .u8, firstT), (1, .u8, accT)]) : HRel P w.heap.size (j5 a.block a.off) ⟨18, mem5 m tp⟩ w := by
 refine HRel.args P w 18 _ _ (j5_go _ _) fun r c hc => ?_
 unfold mem5 at hc
 rw [T.get_put] at hc
 by_cases r1 : 2 = r
 ·rw [if_pos r1] at hc
  cases hc
  subst r1
  refine ⟨by omega, _, _, ⟨2, 0, 0, none⟩, rfl, j5_go _ _ 2 (by decide), laid_lt h1, fun i x hx => ?_⟩
  match i, hx with
  | 0, hx => cases hx; exact ⟨_, h1, rfl⟩
  | i + 1, hx => simp at hx
 rw [if_neg r1, T.get_put] at hc
 by_cases r2 : 0 = r
 ·rw [if_pos r2] at hc
  cases hc
  subst r2
  obtain ⟨_, h4, h5⟩ := h3 _ (List.mem_cons_self ..)
  refine ⟨by omega, _, _, ⟨0, 0, 0, none⟩, rfl, j5_go _ _ 0 (by decide), laid_lt (h5 0 240 rfl), fun i x hx => ?_⟩
  rw [List.getElem?_map] at hx
  obtain ⟨z, hz', rfl⟩ := Option.map_eq_some_iff.1 hx
  exact ⟨_, by rw [Nat.zero_add]; exact h5 i z hz', rfl⟩
 rw [if_neg r2, T.get_put] at hc
 by_cases r3 : 1 = r
 ·rw [if_pos r3] at hc
  cases hc
  subst r3
  obtain ⟨_, h4, h5⟩ := h3 _ (List.mem_cons_of_mem _ (List.mem_cons_self ..))
  refine ⟨by omega, _, _, ⟨1, 0, 0, none⟩, rfl, j5_go _ _ 1 (by decide), laid_lt (h5 0 128 rfl), fun i x hx => ?_⟩
  rw [List.getElem?_map] at hx
  obtain ⟨z, hz', rfl⟩ := Option.map_eq_some_iff.1 hx
  exact ⟨_, by rw [Nat.zero_add]; exact h5 i z hz', rfl⟩
 rw [if_neg r3, T.get_put] at hc
 by_cases r4 : 4 = r
 ·rw [if_pos r4] at hc
  cases hc
  subst r4
  refine ⟨by omega, _, _, ⟨4, 0, 0, none⟩, rfl, j5_go _ _ 4 (by decide), laid_lt h2, fun i x hx => ?_⟩
  match i, hx with
  | 0, hx =>
   cases hx
   refine ⟨_, h2, ?_⟩
   obtain ⟨c, d, s⟩ := a
   cases hs
   rfl
  | i + 1, hx => simp at hx
 ·rw [if_neg r4] at hc
  simp [T.get] at hc
theorem mem5_2 (m : Int) (tp : TypeId) : (mem5 m tp).get 2 = some (.c [.i .i64 m] 0 false) := by
 unfold mem5
 rw [T.get_put, if_pos rfl]
theorem mem5_0 (m : Int) (tp : TypeId) : (mem5 m tp).get 0 = some (.c (firstT.map (V.i .u8)) 0 false) := by
 unfold mem5
 rw [T.get_put, if_neg (by decide), T.get_put, if_pos rfl]
theorem mem5_1 (m : Int) (tp : TypeId) : (mem5 m tp).get 1 = some (.c (accT.map (V.i .u8)) 0 false) := by
 unfold mem5
 rw [T.get_put, if_neg (by decide), T.get_put, if_neg (by decide), T.get_put, if_pos rfl]
theorem mem5_4 (m : Int) (tp : TypeId) : (mem5 m tp).get 4 = some (.c [.ic tp (.p 16 0)] 0 false) := by
 unfold mem5
 rw [T.get_put, if_neg (by decide), T.get_put, if_neg (by decide), T.get_put, if_neg (by decide), T.get_put, if_pos rfl]
theorem laid_u8 {w : World} (h : Go.Lib.Utf8Tabs 0 1 w) : LaidAt w [(0, .u8, firstT), (1, .u8, accT)] := by
 obtain ⟨h1, h2⟩ := h
 have e1 : ∀ i, i < 256 → firstT[i]? = some (Go.Lib.firstT i : Int) := by decide +kernel
 have e2 : ∀ i, i < 16 → accT[2 * i]? = some (Go.Lib.accLo i : Int) ∧ accT[2 * i + 1]? = some (Go.Lib.accHi i : Int) := by decide +kernel
 intro x hx
 simp only [List.mem_cons, List.not_mem_nil, or_false] at hx
 rcases hx with rfl | rfl
 ·refine ⟨by decide, by decide, fun i z hz => ?_⟩
  have hi : i < 256 := (List.getElem?_eq_some_iff.1 hz).1
  have hz : firstT[i]? = some z := hz
  rw [e1 i hi] at hz
  cases hz
  exact h1 i hi
 ·refine ⟨by decide, by decide, fun i z hz => ?_⟩
  have hi : i < 32 := (List.getElem?_eq_some_iff.1 hz).1
  have hz : accT[i]? = some z := hz
  obtain ⟨a, b⟩ := h2 (i / 2) (by omega)
  obtain ⟨c, d⟩ := e2 (i / 2) (by omega)
  rcases Nat.mod_two_eq_zero_or_one i with e | e
  ·rw [show 2 * (i / 2) = i by omega] at a c
   rw [c] at hz
   cases hz
   exact a
  ·rw [show 2 * (i / 2) + 1 = i by omega] at b d
   rw [d] at hz
   cases hz
   exact b
end Go.Am
