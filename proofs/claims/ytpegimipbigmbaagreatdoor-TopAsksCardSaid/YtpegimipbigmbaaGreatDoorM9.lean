/- The checker walks a run while it is made: no tree is written out. It names what is new, and answers what is asked, where it can. -/
import Derived.Test.YtpegimipbigmbaaGreatDoorM5
import Derived.Test.YtpegimipbigmbaaGreatDoorM8
import Derived.Test.YtpegimipbigmbaaGreatDoorM4
set_option linter.unusedSimpArgs false
set_option linter.unusedVariables false
set_option linter.unusedSectionVars false
set_option linter.unnecessarySimpa false
namespace Go.Am.Ck
open Go.Am
def toO (n : Int) : O := match n with
 | .ofNat m => bif Nat.blt m nameB then .c (.ofNat m) else fN ((m - nameB) / stepB) fun q => fN ((m - nameB) % stepB) fun r => bif Nat.beq r midB then .v q else .a q ((r : Int) - (midB : Int))
 | .negSucc m => .c (.negSucc m)
def okO (n : Nat) : O → Bool
 | .c _ => true
 | .v i => Nat.blt i n
 | .a i _ => Nat.blt i n
def Agr (ρ : Nat → Int) (l : List Int) (c : Nat → Int) (J : Nat) : Prop := (∀ i, i < l.length → ρ i = l.getD i 0) ∧ ∀ j, j < J → ρ (chB + j) = c j
theorem off_eq (a : Int) (r z : Nat) : a + (r : Int) - (z : Int) = a + ((r : Int) - (z : Int)) := by omega
theorem off_self (a : Int) (z : Nat) : a + (z : Int) - (z : Int) = a := by omega
theorem toO_of (m : Nat) : toO (.ofNat m) = bif Nat.blt m nameB then .c (.ofNat m) else fN ((m - nameB) / stepB) fun q => fN ((m - nameB) % stepB) fun r => bif Nat.beq r midB then .v q else .a q ((r : Int) - (midB : Int)) := rfl
theorem toO_ge {m : Nat} (h : Nat.blt m nameB = false) : toO (.ofNat m) = (bif Nat.beq ((m - nameB) % stepB) midB then .v ((m - nameB) / stepB) else .a ((m - nameB) / stepB) ((((m - nameB) % stepB : Nat) : Int) - (midB : Int))) := by
 rw [toO_of, h, cond_false, fN_eq, fN_eq]
theorem vi_ge {ρ : Nat → Int} {m : Nat} (h : Nat.blt m nameB = false) : vi ρ (.ofNat m) = ρ ((m - nameB) / stepB) + (((m - nameB) % stepB : Nat) : Int) - (midB : Int) := by
 have e0 : (Int.ofNat m) = ((m : Nat) : Int) := rfl
 rw [e0, vi_nat, h, cond_false]
theorem toO_val {ρ : Nat → Int} {l : List Int} (hρ : ∀ i, i < l.length → ρ i = l.getD i 0) {n : Int} (ho : okO l.length (toO n) = true) : vi ρ n = (toO n).val l := by
 cases n with
 | negSucc m => rfl
 | ofNat m =>
  cases h : Nat.blt m nameB with
  | true =>
   have e0 : (Int.ofNat m) = ((m : Nat) : Int) := rfl
   rw [toO_of, h, cond_true, e0, vi_nat, h, cond_true]; rfl
  | false =>
   rw [toO_ge h] at ho ⊢
   rw [vi_ge h]
   generalize (m - nameB) % stepB = r at ho ⊢
   generalize (m - nameB) / stepB = q at ho ⊢
   cases h2 : Nat.beq r midB with
   | true =>
    rw [h2, cond_true] at ho
    have := Nat.le_of_ble_eq_true ho
    rw [cond_true, hρ _ this, Nat.eq_of_beq_eq_true h2]
    exact off_self _ _
   | false =>
    rw [h2, cond_false] at ho
    have := Nat.le_of_ble_eq_true ho
    rw [cond_false, hρ _ this]
    exact off_eq _ _ _
def toDd : D → Dd
 | .ib op k x y => .ib op k (toO x) (toO y)
 | .sh op k x y => .sh op k (toO x) (toO y)
 | .un op k x => .un op k (toO x)
 | .wr k x => .wr k (toO x)
 | .by_ x => .by_ (toO x)
def okD (n : Nat) : D → Bool
 | .ib _ _ x y => okO n (toO x) && okO n (toO y)
 | .sh _ _ x y => okO n (toO x) && okO n (toO y)
 | .un _ _ x => okO n (toO x)
 | .wr _ x => okO n (toO x)
 | .by_ x => okO n (toO x)
theorem toDd_val {ρ : Nat → Int} {l : List Int} (hρ : ∀ i, i < l.length → ρ i = l.getD i 0) {d : D} (ho : okD l.length d = true) : evD ρ d = (toDd d).val l := by
 cases d <;> simp only [okD, Bool.and_eq_true] at ho <;> simp only [toDd, evD, Dd.val]
 ·rw [toO_val hρ ho.1, toO_val hρ ho.2]
 ·rw [toO_val hρ ho.1, toO_val hρ ho.2]
 ·rw [toO_val hρ ho]
 ·rw [toO_val hρ ho]
 ·rw [toO_val hρ ho]
def toQq : Qn → Qq
 | .lt x y => .lt (toO x) (toO y)
 | .le x y => .le (toO x) (toO y)
 | .eq x y => .eq (toO x) (toO y)
def okQ (n : Nat) : Qn → Bool
 | .lt x y => okO n (toO x) && okO n (toO y)
 | .le x y => okO n (toO x) && okO n (toO y)
 | .eq x y => okO n (toO x) && okO n (toO y)
theorem toQq_val {ρ : Nat → Int} {l : List Int} (hρ : ∀ i, i < l.length → ρ i = l.getD i 0) {q : Qn} (ho : okQ l.length q = true) : evQ ρ q = true ↔ (toQq q).holds l := by
 cases q <;> simp only [okQ, Bool.and_eq_true] at ho <;> simp only [toQq, evQ, Qq.holds, decide_eq_true_eq]
 ·rw [toO_val hρ ho.1, toO_val hρ ho.2]
 ·rw [toO_val hρ ho.1, toO_val hρ ho.2]
 ·rw [toO_val hρ ho.1, toO_val hρ ho.2]
structure Wk where
 S : Sv
 J : Nat
 nl : List (Nat × Lf)
 kq : List (Qn × Bool)
 kd : List (D × Int)
structure WFit (W : Wk) (l : List Int) (α c : Nat → Int) : Prop where
 F : Fit W.S l α
 nl : ∀ p ∈ W.nl, p.1 < l.length ∧ p.2.bd W.S.na ∧ p.2.ev α = l.getD p.1 0
 kq : ∀ p ∈ W.kq, ∀ ρ, Agr ρ l c W.J → evQ ρ p.1 = p.2
 kd : ∀ p ∈ W.kd, ∀ ρ, Agr ρ l c W.J → evD ρ p.1 = some (vi ρ p.2)
def pick (f : Lf) : List (Nat × Lf) → Option Int
 | [] => none
 | p :: r => bif sameT p.2.t f.t then fI (f.c - p.2.c) fun d => bif leI (-1000000000000) d && leI d 1000000000000 then some ((nameB : Int) + (midB : Int) + d + (stepB : Int) * (p.1 : Int)) else pick f r else pick f r
theorem vi_off {ρ : Nat → Int} {i : Nat} {d : Int} (h1 : -1000000000000 ≤ d) (h2 : d ≤ 1000000000000) : vi ρ ((nameB : Int) + (midB : Int) + d + (stepB : Int) * (i : Int)) = ρ i + d := by
 have hm : (midB : Int) = 1099511627776 := by decide
 have hz : (((midB : Int) + d).toNat) < stepB := by unfold stepB; omega
 have e : ((nameB : Int) + (midB : Int) + d + (stepB : Int) * (i : Int)) = ((nameB + (((midB : Int) + d).toNat + stepB * i) : Nat) : Int) := by
  have : ((((midB : Int) + d).toNat : Nat) : Int) = (midB : Int) + d := Int.toNat_of_nonneg (by omega)
  rw [Int.natCast_add, Int.natCast_add, this, Int.natCast_mul]
  omega
 rw [e, vi_at ρ i _ hz, Int.toNat_of_nonneg (by omega)]
 omega
theorem pick_ok {f : Lf} {α : Nat → Int} {l : List Int} {na : Nat} : ∀ {L : List (Nat × Lf)} {z : Int}, (∀ p ∈ L, p.1 < l.length ∧ p.2.bd na ∧ p.2.ev α = l.getD p.1 0) → pick f L = some z → ∀ ρ : Nat → Int, (∀ i, i < l.length → ρ i = l.getD i 0) → vi ρ z = f.ev α
 | [], _, _, h => by cases h
 | p :: r, z, hL, h => by
  intro ρ hρ
  simp only [pick, fI_eq] at h
  cases e : sameT p.2.t f.t with
  | false => rw [e, cond_false] at h; exact pick_ok (fun q hq => hL q (List.mem_cons_of_mem _ hq)) h ρ hρ
  | true =>
   rw [e, cond_true] at h
   cases e2 : leI (-1000000000000) (f.c - p.2.c) && leI (f.c - p.2.c) 1000000000000 with
   | false => rw [e2, cond_false] at h; exact pick_ok (fun q hq => hL q (List.mem_cons_of_mem _ hq)) h ρ hρ
   | true =>
    rw [e2, cond_true, Option.some.injEq] at h
    rw [Bool.and_eq_true] at e2
    have a1 := leI_iff.1 e2.1
    have a2 := leI_iff.1 e2.2
    obtain ⟨h1, _, h3⟩ := hL p (List.mem_cons_self ..)
    have ht := sameT_ok e
    rw [← h, vi_off a1 a2, hρ _ h1, ← h3]
    simp only [Lf.ev, ht]
    omega
def nmK (S : Sv) (nl : List (Nat × Lf)) (y : Nx) (κ : Int → Sv → List (Nat × Lf) → Bool) : Bool :=
 bif sameI y.lo y.hi && conc y.lo then κ y.lo S nl else match pick y.f nl with
  | some z => fI z fun z => κ z S nl
  | none => fI ((nameB : Int) + (midB : Int) + 0 + (stepB : Int) * (S.n : Int)) fun z => pushK S y fun S' => κ z S' ((S.n, y.f) :: nl)
theorem nmK_ok {S : Sv} {nl : List (Nat × Lf)} {l : List Int} {α : Nat → Int} {y : Nx} {v : Int} (F : Fit S l α) (hnl : ∀ p ∈ nl, p.1 < l.length ∧ p.2.bd S.na ∧ p.2.ev α = l.getD p.1 0) (hy : Rep S.na α y v) {κ : Int → Sv → List (Nat × Lf) → Bool} (h : nmK S nl y κ = true) :
  ∃ k z S' nl', Fit S' (l ++ k) α ∧ S'.na = S.na ∧ (∀ p ∈ nl', p.1 < (l ++ k).length ∧ p.2.bd S'.na ∧ p.2.ev α = (l ++ k).getD p.1 0) ∧ (∀ ρ : Nat → Int, (∀ i, i < (l ++ k).length → ρ i = (l ++ k).getD i 0) → vi ρ z = v) ∧ κ z S' nl' = true := by
 unfold nmK at h
 cases e : sameI y.lo y.hi && conc y.lo with
 | true =>
  rw [e, cond_true] at h
  rw [Bool.and_eq_true] at e
  have e1 := sameI_eq e.1
  have hb := hy.2.2
  refine ⟨[], _, S, nl, by rw [List.append_nil]; exact F, rfl, by rw [List.append_nil]; exact hnl, fun ρ _ => ?_, h⟩
  rw [vi_conc e.2]; omega
 | false =>
  rw [e, cond_false] at h
  split at h
  ·rename_i z hz
   rw [fI_eq] at h
   refine ⟨[], _, S, nl, by rw [List.append_nil]; exact F, rfl, by rw [List.append_nil]; exact hnl, fun ρ hρ => ?_, h⟩
   rw [List.append_nil] at hρ
   rw [pick_ok hnl hz ρ hρ, hy.2.1]
  ·rw [fI_eq] at h
   have hk := h
   simp only [pushK, T.seq_eq, fN_eq] at hk
   obtain ⟨S', F', h'⟩ := push_ok F hy (κ := fun S' => Nat.beq S'.na S.na && κ ((nameB : Int) + (midB : Int) + 0 + (stepB : Int) * (S.n : Int)) S' ((S.n, y.f) :: nl)) (by
    simp only [pushK, T.seq_eq, fN_eq]
    rw [hk, Nat.beq_refl]; rfl)
   rw [Bool.and_eq_true] at h'
   have hna := Nat.eq_of_beq_eq_true h'.1
   have hl := F.n
   refine ⟨[v], _, S', (S.n, y.f) :: nl, F', hna, fun p hp => ?_, fun ρ hρ => ?_, h'.2⟩
   ·rcases List.mem_cons.1 hp with rfl | hp
    ·refine ⟨by rw [List.length_append]; show S.n < l.length + 1; omega, by rw [hna]; exact hy.1, ?_⟩
     rw [List.getD_eq_getElem?_getD, List.getElem?_append_right (by omega), show S.n - l.length = 0 by omega]
     exact hy.2.1
    ·obtain ⟨a, b, c⟩ := hnl p hp
     refine ⟨by rw [List.length_append]; omega, by rw [hna]; exact b, ?_⟩
     rw [List.getD_eq_getElem?_getD, List.getElem?_append_left a, ← List.getD_eq_getElem?_getD]
     exact c
   ·rw [vi_off (by decide) (by decide), hρ S.n (by rw [List.length_append]; show S.n < l.length + 1; omega), List.getD_eq_getElem?_getD, List.getElem?_append_right (by omega), show S.n - l.length = 0 by omega]
    show v + 0 = v
    omega
def vacG (m : T (Int × Int)) : List Gh → Bool
 | [] => false
 | e :: r => (bif sameI e.p 0 then (match ivT m e.x.f.t with
   | some y => leI (e.x.f.c + y.2) (-1) || leI 1 (e.x.f.c + y.1) || !sameI (e.x.f.c % ((gcdL e.x.f.t : Nat) : Int)) 0
   | none => false)
  else bif sameI e.p (-1) then (match ivT m e.x.f.t with
   | some y => sameI (e.x.f.c + y.1) 0 && sameI (e.x.f.c + y.2) 0
   | none => false) else false) || vacG m r
def vac (S : Sv) : Bool := !(S.at_.all fun p => leI p.1 p.2) || vacG S.at_ S.gh
theorem vacG_no {S : Sv} {α : Nat → Int} (hm : Atm S.at_ α) : ∀ {g : List Gh}, (∀ e ∈ g, GhOk S.na α e) → vacG S.at_ g = true → False
 | [], _, h => by cases h
 | e :: r, hg, h => by
  simp only [vacG, Bool.or_eq_true] at h
  rcases h with h | h
  ·cases e1 : sameI e.p 0 with
   | true =>
    rw [e1, cond_true] at h
    have h0 := ((hg e (List.mem_cons_self ..)).1 (sameI_eq e1)).2
    split at h
    ·rename_i y hy
     have hb := ivT_ok hm hy
     rw [Lf.ev] at h0
     rw [Bool.or_eq_true, Bool.or_eq_true] at h
     rcases h with (h | h) | h
     ·have := leI_iff.1 h; omega
     ·have := leI_iff.1 h; omega
     ·have hne : e.x.f.c % ((gcdL e.x.f.t : Nat) : Int) ≠ 0 := by
       cases hs : sameI (e.x.f.c % ((gcdL e.x.f.t : Nat) : Int)) 0 with
       | true => rw [hs] at h; cases h
       | false => exact sameI_f hs
      have hd := gcdL_dvd α e.x.f.t
      refine hne (Int.emod_eq_zero_of_dvd ?_)
      rw [show e.x.f.c = -evl α e.x.f.t by omega]
      exact Int.dvd_neg.2 hd
    ·cases h
   | false =>
    rw [e1, cond_false] at h
    cases e2 : sameI e.p (-1) with
    | false => rw [e2] at h; cases h
    | true =>
     rw [e2, cond_true] at h
     have h0 := ((hg e (List.mem_cons_self ..)).2.1 (sameI_eq e2)).2
     split at h
     ·rename_i y hy
      have hb := ivT_ok hm hy
      rw [Lf.ev] at h0
      rw [Bool.and_eq_true] at h
      have a1 := sameI_eq h.1
      have a2 := sameI_eq h.2
      omega
     ·cases h
  ·exact vacG_no hm (fun e he => hg e (List.mem_cons_of_mem _ he)) h
theorem all_get {A : Type} {p : A → Bool} : ∀ {t : T A}, (∀ i v, t.get i = some v → p v = true) → t.all p = true
 | .l, _ => rfl
 | .n a v b, h => by
  simp only [T.all, Bool.and_eq_true]
  refine ⟨⟨all_get fun i w hw => h (2 * i + 1) w ?_, ?_⟩, all_get fun i w hw => h (2 * i + 2) w ?_⟩
  ·simp only [T.get, show 2 * i % 2 = 0 by omega, show 2 * i / 2 = i by omega]; exact hw
  ·cases v with
   | none => rfl
   | some w => exact h 0 w rfl
  ·simp only [T.get, show (2 * i + 1) % 2 = 1 by omega, show (2 * i + 1) / 2 = i by omega]; exact hw
theorem vac_no {S : Sv} {l : List Int} {α : Nat → Int} (F : Fit S l α) (h : vac S = true) : False := by
 unfold vac at h
 rw [Bool.or_eq_true] at h
 rcases h with h | h
 ·have : S.at_.all (fun p => leI p.1 p.2) = true := all_get fun i x hx => by
   have := F.at_ i x hx
   exact leI_iff.2 (Int.le_trans this.1 this.2)
  rw [this] at h
  cases h
 ·exact vacG_no F.at_ F.gh h
noncomputable def wk {A : Type} (leaf : A → Wk → Bool) (t : Tr A) : Wk → Bool := Tr.rec (motive := fun _ => Wk → Bool) (fun a W => leaf a W) (fun _ => false) (fun _ _ _ _ _ => false) (fun _ _ _ _ _ => false) (fun _ _ _ _ _ _ => false)
 (fun q _ ih W => match fQ q W.kq with
  | some b => ih b W
  | none => bif okQ W.S.n q then (match decZ W.S (toQq q) with
   | some b => tkF 31 W.kq fun kq => ih b ⟨W.S, W.J, W.nl, (q, b) :: kq, W.kd⟩
   | none => (learnK W.S (toQq q) true fun S => vac S || (Nat.beq S.na W.S.na && tkF 31 W.kq fun kq => ih true ⟨S, W.J, W.nl, (q, true) :: kq, W.kd⟩)) && (learnK W.S (toQq q) false fun S => vac S || (Nat.beq S.na W.S.na && tkF 31 W.kq fun kq => ih false ⟨S, W.J, W.nl, (q, false) :: kq, W.kd⟩))) else false)
 (fun j d _ ih W => bif Nat.beq j W.J then fN (W.J + 1) fun J => (match fD d W.kd with
  | some x => ih x ⟨W.S, J, W.nl, W.kq, W.kd⟩
  | none => bif okD W.S.n d then comp W.S (toDd d) fun S y => nmK S W.nl y fun z S nl => tkF 31 W.kd fun kd => ih z ⟨S, J, nl, W.kq, (d, z) :: kd⟩ else false) else false) t
theorem Agr.mono {ρ : Nat → Int} {l k : List Int} {c c' : Nat → Int} {J J' : Nat} (h : Agr ρ (l ++ k) c' J') (hJ : J ≤ J') (hc : ∀ j, j < J → c' j = c j) : Agr ρ l c J :=
 ⟨fun i hi => by rw [h.1 i (by rw [List.length_append]; omega), List.getD_eq_getElem?_getD, List.getElem?_append_left hi, ← List.getD_eq_getElem?_getD], fun j hj => by rw [h.2 j (Nat.lt_of_lt_of_le hj hJ), hc j hj]⟩
theorem wk_ok {A : Type} {leaf : A → Wk → Bool} : ∀ {t : Tr A} {W : Wk} {l : List Int} {α c : Nat → Int}, WFit W l α c → wk leaf t W = true →
  ∃ k α' c' W' a, WFit W' (l ++ k) α' c' ∧ leaf a W' = true ∧ (∀ ρ, Agr ρ (l ++ k) c' W'.J → t.run ρ = some a) ∧ W.J ≤ W'.J ∧ ∀ j, j < W.J → c' j = c j
 | .ret a, W, l, α, c, F, h => ⟨[], α, c, W, a, by rw [List.append_nil]; exact F, h, fun _ _ => rfl, Nat.le_refl _, fun _ _ => rfl⟩
 | .fail, _, _, _, _, _, h => by cases h
 | .new _ _ _, _, _, _, _, _, h => by cases h
 | .is _ _ _, _, _, _, _, _, h => by cases h
 | .fork _ _ _, _, _, _, _, _, h => by cases h
 | .ask q k, W, l, α, c, F, h => by
  have go : ∀ {b : Bool} {W1 : Wk}, WFit W1 l α c → W1.J = W.J → (∀ ρ, Agr ρ l c W.J → evQ ρ q = b) → wk leaf (k b) W1 = true → ∃ k' α' c' W' a, WFit W' (l ++ k') α' c' ∧ leaf a W' = true ∧ (∀ ρ, Agr ρ (l ++ k') c' W'.J → (Tr.ask q k).run ρ = some a) ∧ W.J ≤ W'.J ∧ ∀ j, j < W.J → c' j = c j := by
   intro b W1 F1 hJ hq h1
   obtain ⟨k', α', c', W', a, a1, a2, a3, a4, a5⟩ := wk_ok (t := k b) F1 h1
   rw [hJ] at a4 a5
   refine ⟨k', α', c', W', a, a1, a2, fun ρ hρ => ?_, a4, a5⟩
   simp only [Tr.run]
   rw [hq ρ (hρ.mono a4 a5)]
   exact a3 ρ hρ
  have kq' : ∀ {b : Bool} {S : Sv}, Fit S l α → S.na = S.na → (∀ ρ, Agr ρ l c W.J → evQ ρ q = b) → (∀ p ∈ W.nl, p.1 < l.length ∧ p.2.bd S.na ∧ p.2.ev α = l.getD p.1 0) → WFit ⟨S, W.J, W.nl, (q, b) :: W.kq.take 31, W.kd⟩ l α c := fun hS _ hb hn =>
   ⟨hS, hn, fun p hp => by
    rcases List.mem_cons.1 hp with rfl | hp
    ·exact hb
    ·exact F.kq p (List.mem_of_mem_take hp), F.kd⟩
  have h' : (match fQ q W.kq with
   | some b => wk leaf (k b) W
   | none => bif okQ W.S.n q then (match decZ W.S (toQq q) with
    | some b => tkF 31 W.kq fun kq => wk leaf (k b) ⟨W.S, W.J, W.nl, (q, b) :: kq, W.kd⟩
    | none => (learnK W.S (toQq q) true fun S => vac S || (Nat.beq S.na W.S.na && tkF 31 W.kq fun kq => wk leaf (k true) ⟨S, W.J, W.nl, (q, true) :: kq, W.kd⟩)) && (learnK W.S (toQq q) false fun S => vac S || (Nat.beq S.na W.S.na && tkF 31 W.kq fun kq => wk leaf (k false) ⟨S, W.J, W.nl, (q, false) :: kq, W.kd⟩))) else false) = true := h
  split at h'
  ·rename_i b hb
   rw [fQ_eq] at hb
   exact go F rfl (fun ρ hρ => F.kq _ (findQ_mem hb) ρ hρ) h'
  ·cases ho : okQ W.S.n q with
   | false => rw [ho] at h'; cases h'
   | true =>
    rw [ho, cond_true] at h'
    rw [← F.F.n] at ho
    split at h'
    ·rename_i b hb
     rw [tkF_eq] at h'
     have hq : ∀ ρ, Agr ρ l c W.J → evQ ρ q = b := fun ρ hρ => by
      have e1 := toQq_val hρ.1 ho
      have e2 := decZ_ok F.F hb
      cases b with
      | true => exact e1.2 (e2.2 rfl)
      | false =>
       cases e3 : evQ ρ q with
       | false => rfl
       | true => have := e2.1 (e1.1 e3); cases this
     exact go (kq' F.F rfl hq F.nl) rfl hq h'
    ·rw [Bool.and_eq_true] at h'
     have both : ∀ {b : Bool}, ((toQq q).holds l ↔ b = true) → (learnK W.S (toQq q) b fun S => vac S || (Nat.beq S.na W.S.na && tkF 31 W.kq fun kq => wk leaf (k b) ⟨S, W.J, W.nl, (q, b) :: kq, W.kd⟩)) = true → ∃ k' α' c' W' a, WFit W' (l ++ k') α' c' ∧ leaf a W' = true ∧ (∀ ρ, Agr ρ (l ++ k') c' W'.J → (Tr.ask q k).run ρ = some a) ∧ W.J ≤ W'.J ∧ ∀ j, j < W.J → c' j = c j := by
      intro b hb hl
      obtain ⟨S1, F1, h1⟩ := learnK_ok F.F hb hl
      rw [Bool.or_eq_true] at h1
      rcases h1 with h1 | h1
      ·exact (vac_no F1 h1).elim
      rw [Bool.and_eq_true, tkF_eq] at h1
      have hna := Nat.eq_of_beq_eq_true h1.1
      have h1 := h1.2
      have hq : ∀ ρ, Agr ρ l c W.J → evQ ρ q = b := fun ρ hρ => by
       have e1 := toQq_val hρ.1 ho
       cases b with
       | true => exact e1.2 (hb.2 rfl)
       | false =>
        cases e3 : evQ ρ q with
        | false => rfl
        | true => have := hb.1 (e1.1 e3); cases this
      exact go (kq' F1 rfl hq (fun p hp => by rw [hna]; exact F.nl p hp)) rfl hq h1
     by_cases hh : (toQq q).holds l
     ·exact both ⟨fun _ => rfl, fun _ => hh⟩ h'.1
     ·exact both ⟨fun h' => absurd h' hh, fun h' => by cases h'⟩ h'.2
 | .dfn j d k, W, l, α, c, F, h => by
  have h' : (bif Nat.beq j W.J then fN (W.J + 1) fun J => (match fD d W.kd with
   | some x => wk leaf (k x) ⟨W.S, J, W.nl, W.kq, W.kd⟩
   | none => bif okD W.S.n d then comp W.S (toDd d) fun S y => nmK S W.nl y fun z S nl => tkF 31 W.kd fun kd => wk leaf (k z) ⟨S, J, nl, W.kq, (d, z) :: kd⟩ else false) else false) = true := h
  cases hj : Nat.beq j W.J with
  | false => rw [hj] at h'; cases h'
  | true =>
   rw [hj, cond_true, fN_eq] at h'
   have ej := Nat.eq_of_beq_eq_true hj
   subst ej
   -- the choice of 'z'
   have go : ∀ {k0 : List Int} {α1 : Nat → Int} {z : Int} {W1 : Wk}, W1.J = W.J + 1 → Fit W1.S (l ++ k0) α1 → (∀ p ∈ W1.nl, p.1 < (l ++ k0).length ∧ p.2.bd W1.S.na ∧ p.2.ev α1 = (l ++ k0).getD p.1 0) →
     W1.kq = W.kq → (W1.kd = W.kd ∨ W1.kd = (d, z) :: W.kd.take 31) → (∀ ρ, Agr ρ (l ++ k0) c W.J → evD ρ d = some (vi ρ z)) → wk leaf (k z) W1 = true →
     ∃ k' α' c' W' a, WFit W' (l ++ k') α' c' ∧ leaf a W' = true ∧ (∀ ρ, Agr ρ (l ++ k') c' W'.J → (Tr.dfn W.J d k).run ρ = some a) ∧ W.J ≤ W'.J ∧ ∀ j, j < W.J → c' j = c j := by
    intro k0 α1 z W1 hJ F1 hn hkq hkd hd hw
    have hc1 : ∀ j, j < W.J → (fun i => if i = W.J then z else c i) j = c j := fun j hj => if_neg (by omega)
    have old : ∀ ρ, Agr ρ (l ++ k0) (fun i => if i = W.J then z else c i) W1.J → Agr ρ (l ++ k0) c W.J := fun ρ hρ => ⟨hρ.1, fun j hj => by rw [hρ.2 j (by omega), hc1 j hj]⟩
    have dn : ∀ ρ, Agr ρ (l ++ k0) c W.J → Agr ρ l c W.J := fun ρ hρ => hρ.mono (Nat.le_refl _) fun _ _ => rfl
    have F2 : WFit W1 (l ++ k0) α1 fun i => if i = W.J then z else c i := by
     refine ⟨F1, hn, fun p hp ρ hρ => ?_, fun p hp ρ hρ => ?_⟩
     ·rw [hkq] at hp; exact F.kq p hp ρ (dn ρ (old ρ hρ))
     ·rcases hkd with e | e
      ·rw [e] at hp; exact F.kd p hp ρ (dn ρ (old ρ hρ))
      ·rw [e] at hp
       rcases List.mem_cons.1 hp with rfl | hp
       ·exact hd ρ (old ρ hρ)
       ·exact F.kd p (List.mem_of_mem_take hp) ρ (dn ρ (old ρ hρ))
    obtain ⟨k', α', c', W', a, a1, a2, a3, a4, a5⟩ := wk_ok (t := k z) F2 hw
    rw [hJ] at a4
    have a5' : ∀ j, j < W.J → c' j = c j := fun j hj => by rw [a5 j (by omega)]; exact hc1 j hj
    refine ⟨k0 ++ k', α', c', W', a, by rw [← List.append_assoc]; exact a1, a2, fun ρ hρ => ?_, by omega, a5'⟩
    rw [← List.append_assoc] at hρ
    have hz : ρ (chB + W.J) = z := by
     rw [hρ.2 _ (by omega), a5 _ (by omega)]; exact if_pos rfl
    simp only [Tr.run]
    rw [hd ρ (hρ.mono (by omega) a5')]
    simp only
    rw [hz, if_pos rfl]
    exact a3 ρ hρ
   split at h'
   ·rename_i z hz
    rw [fD_eq] at hz
    exact go (k0 := []) (α1 := α) (W1 := ⟨W.S, W.J + 1, W.nl, W.kq, W.kd⟩) rfl (by rw [List.append_nil]; exact F.F) (by rw [List.append_nil]; exact F.nl) rfl (.inl rfl) (fun ρ hρ => F.kd _ (findD_mem hz) ρ (hρ.mono (Nat.le_refl _) fun _ _ => rfl)) h'
   ·cases ho : okD W.S.n d with
    | false => rw [ho] at h'; cases h'
    | true =>
     rw [ho, cond_true] at h'
     rw [← F.F.n] at ho
     obtain ⟨v, hv, S1, α1, y, F1, n1, n2, hy, hk⟩ := comp_ok F.F h'
     have hn1 : ∀ p ∈ W.nl, p.1 < l.length ∧ p.2.bd S1.na ∧ p.2.ev α1 = l.getD p.1 0 := fun p hp => by
      obtain ⟨a, b, e⟩ := F.nl p hp
      exact ⟨a, bdl_mono n1 b, by rw [Lf.ev_congr n2 b]; exact e⟩
     obtain ⟨k0, z, S2, nl2, F2, _, hn2, hz, hw⟩ := nmK_ok F1 hn1 hy hk
     rw [tkF_eq] at hw
     refine go (k0 := k0) (α1 := α1) (W1 := ⟨S2, W.J + 1, nl2, W.kq, (d, z) :: W.kd.take 31⟩) rfl F2 hn2 rfl (.inr rfl) (fun ρ hρ => ?_) hw
     have hl : ∀ i, i < l.length → ρ i = l.getD i 0 := (hρ.mono (Nat.le_refl W.J) fun _ _ => rfl : Agr ρ l c W.J).1
     rw [toDd_val hl ho, hv, hz ρ hρ.1]
end Go.Am.Ck
namespace Go.Am
open Go.Am.Ck
mutual
def bnV (n : Nat) : V → Bool
 | .i _ z => okO n (toO z)
 | .f _ caps => bnVs n caps
 | .ic _ v => bnV n v
 | .a l => bnVs n l
 | .t l => bnVs n l
 | _ => true
def bnVs (n : Nat) : List V → Bool
 | [] => true
 | v :: l => bnV n v && bnVs n l
end
section
variable {ρ σ : Nat → Int} {n : Nat}
theorem vi_bn (h : ∀ i, i < n → ρ i = σ i) {z : Int} (hz : okO n (toO z) = true) : vi ρ z = vi σ z := by
 have e1 : ∀ i, i < ((List.range n).map ρ).length → ρ i = ((List.range n).map ρ).getD i 0 := fun i hi => by
  rw [List.length_map, List.length_range] at hi
  simp [List.getD_eq_getElem?_getD, List.getElem?_map, List.getElem?_range hi]
 have e2 : ∀ i, i < ((List.range n).map ρ).length → σ i = ((List.range n).map ρ).getD i 0 := fun i hi => by
  rw [← e1 i hi]
  rw [List.length_map, List.length_range] at hi
  exact (h i hi).symm
 have hl : ((List.range n).map ρ).length = n := by rw [List.length_map, List.length_range]
 rw [toO_val e1 (by rw [hl]; exact hz), toO_val e2 (by rw [hl]; exact hz)]
mutual
theorem val_bn (h : ∀ i, i < n → ρ i = σ i) : ∀ v : V, bnV n v = true → val ρ v = val σ v
 | .b _, _ | .s _, _ | .np, _ | .p _ _, _ | .ns, _ | .sl _ _ _ _ _, _ | .se _ _ _, _ | .zs _ _ _, _ | .ze _, _ | .nm, _ | .m _, _ | .nf, _ | .ni, _ => rfl
 | .i k z, hv => by simp only [bnV] at hv; simp only [val, vi_bn h hv]
 | .f fn caps, hv => by simp only [bnV] at hv; simp only [val, vals_bn h caps hv]
 | .ic t v, hv => by simp only [bnV] at hv; simp only [val, val_bn h v hv]
 | .a l, hv => by simp only [bnV] at hv; simp only [val, vals_bn h l hv]
 | .t l, hv => by simp only [bnV] at hv; simp only [val, vals_bn h l hv]
theorem vals_bn (h : ∀ i, i < n → ρ i = σ i) : ∀ l : List V, bnVs n l = true → vals ρ l = vals σ l
 | [], _ => rfl
 | v :: l, hv => by
  simp only [bnVs, Bool.and_eq_true] at hv
  simp only [vals, val_bn h v hv.1, vals_bn h l hv.2]
end
def bnEs (n : Nat) : List (V × V × Nat) → Bool
 | [] => true
 | (a, b, _) :: l => bnV n a && bnV n b && bnEs n l
def bnB (n : Nat) : B → Bool
 | .c l _ _ => bnVs n l
 | .mp es _ => bnEs n es
 | .it _ _ => true
def bnL (n : Nat) : List (Nat × B) → Bool
 | [] => true
 | (_, b) :: l => bnB n b && bnL n l
theorem valM_bn (h : ∀ i, i < n → ρ i = σ i) : ∀ l : List (V × V × Nat), bnEs n l = true → valM ρ l = valM σ l
 | [], _ => rfl
 | (a, b, c) :: l, hl => by
  simp only [bnEs, Bool.and_eq_true] at hl
  have := valM_bn h l hl.2
  simp only [valM] at this ⊢
  simp only [List.map_cons, val_bn h a hl.1.1, val_bn h b hl.1.2, this]
theorem valB_bn (h : ∀ i, i < n → ρ i = σ i) : ∀ b : B, bnB n b = true → valB ρ b = valB σ b
 | .c l _ _, hb => by simp only [bnB] at hb; simp only [valB, vals_bn h l hb]
 | .mp es _, hb => by simp only [bnB] at hb; simp only [valB, valM_bn h es hb]
 | .it _ _, _ => rfl
theorem layB_bn (h : ∀ i, i < n → ρ i = σ i) : ∀ l : List (Nat × B), bnL n l = true → (layB l).mp (valB ρ) = (layB l).mp (valB σ)
 | [], _ => rfl
 | (r, b) :: l, hl => by
  simp only [bnL, Bool.and_eq_true] at hl
  simp only [layB, T.put_mp, Option.map_some, valB_bn h b hl.1, layB_bn h l hl.2]
end
theorem agr_ex {W : Wk} {l k : List Int} {α c : Nat → Int} (F : WFit W (l ++ k) α c) (hb : Nat.ble W.S.n chB = true) : ∃ ρ, Agr ρ (l ++ k) c W.J ∧ ∀ i, i < l.length → ρ i = l.getD i 0 := by
 have hn := F.F.n
 have hb := Nat.le_of_ble_eq_true hb
 refine ⟨fun i => if i < (l ++ k).length then (l ++ k).getD i 0 else c (i - chB), ⟨fun i hi => if_pos hi, fun j _ => ?_⟩, fun i hi => ?_⟩
 ·show (if chB + j < (l ++ k).length then _ else c (chB + j - chB)) = _
  rw [if_neg (by omega), Nat.add_sub_cancel_left]
 ·show (if i < (l ++ k).length then _ else c (i - chB)) = _
  rw [if_pos (by rw [List.length_append]; omega), List.getD_eq_getElem?_getD, List.getElem?_append_left hi, ← List.getD_eq_getElem?_getD]
end Go.Am
namespace Go.Am
theorem T.put_get {A : Type} : ∀ {t : T A} {i : Nat} {v : A}, t.get i = some v → t.put i (some v) = t
 | .l, i, v, h => by cases h
 | .n a x b, 0, v, h => by
  simp only [T.get] at h
  simp only [T.put, h]
 | .n a x b, k + 1, v, h => by
  simp only [T.get] at h
  simp only [T.put]
  cases e : Nat.beq (k % 2) 0 with
  | true => rw [e] at h; simp only [cond_true, T.seq_eq] at h ⊢; rw [T.put_get h]
  | false => rw [e] at h; simp only [cond_false, T.seq_eq] at h ⊢; rw [T.put_get h]
noncomputable section
def selC (v : V) (s : Sy) (κ : V → Sy → R) : R := match v with
 | .i .i64 n => cB (conc n) (cB (sameI n 0) (κ (.i .i64 (.ofNat 65535)) s) (κ v s))
   (askC (.le 0 n) s fun b s => cB b (askC (.le n 65535) s fun b s => cB b (defC (.ib .add .i64 n 65534) s fun z s => defC (.ib .rem .i64 z 65535) s fun z s => defC (.ib .add .i64 z 1) s fun z s => κ (.i .i64 z) s) .fail) .fail)
 | _ => .fail
end
section
variable {ρ : Nat → Int}
theorem bd_run {A : Type} {m : M A} {s : Sy} {κ : A → Sy → R} {r : (V × H) × Sy} (h : (bd (m s) κ).run ρ = some r) : ∃ a s', Runs ρ m s a s' ∧ (κ a s').run ρ = some r := by
 unfold bd at h
 obtain ⟨⟨a, s'⟩, h1, h2⟩ := Tr.run_some h
 exact ⟨a, s', h1, h2⟩
theorem cB_run {b : Bool} {t : R} {r : (V × H) × Sy} (h : (cB b t .fail).run ρ = some r) : b = true ∧ t.run ρ = some r := by
 rw [cB_eq] at h
 cases b with
 | true => exact ⟨rfl, h⟩
 | false => cases h
theorem wrap_sm {z : Int} (h1 : 0 ≤ z) (h2 : z ≤ 9223372036854775807) : IntKind.i64.wrap z = z := by
 have := wrap_in (k := .i64) (n := z) (by show (-9223372036854775808 : Int) ≤ z; omega) (by show z ≤ (9223372036854775807 : Int); omega)
 exact this
theorem selC_run {v : V} {s : Sy} {κ : V → Sy → R} {r : (V × H) × Sy} (h : (selC v s κ).run ρ = some r) :
  ∃ n w s', v = .i .i64 n ∧ vi ρ w = (if vi ρ n = 0 then 65535 else vi ρ n) ∧ (κ (.i .i64 w) s').run ρ = some r := by
 unfold selC at h
 split at h
 ·rename_i n
  rw [cB_eq] at h
  cases hc : conc n with
  | true =>
   rw [hc, cond_true, cB_eq] at h
   cases hz : sameI n 0 with
   | true =>
    rw [hz, cond_true] at h
    have := sameI_eq hz
    subst this
    exact ⟨_, _, s, rfl, by rw [vi_conc hc, if_pos rfl]; exact vi_conc (by decide), h⟩
   | false =>
    rw [hz, cond_false] at h
    refine ⟨n, n, s, rfl, ?_, h⟩
    rw [vi_conc hc, if_neg]
    intro e
    subst e
    cases hz
  | false =>
   rw [hc, cond_false, askC_eq] at h
   obtain ⟨b, s1, h1, k1⟩ := bd_run h
   obtain ⟨rfl, k2⟩ := cB_run k1
   rw [askC_eq] at k2
   obtain ⟨b, s2, h2, k3⟩ := bd_run k2
   obtain ⟨rfl, k4⟩ := cB_run k3
   rw [defC_eq] at k4
   obtain ⟨z1, s3, h3, h⟩ := bd_run k4
   rw [defC_eq] at h
   obtain ⟨z2, s4, h4, h⟩ := bd_run h
   rw [defC_eq] at h
   obtain ⟨z3, s5, h5, h⟩ := bd_run h
   have e1 := runs_ask h1
   have e2 := runs_ask h2
   have e3 := runs_def h3
   have e4 := runs_def h4
   have e5 := runs_def h5
   simp only [evQ, decide_eq_true_eq] at e1 e2
   rw [vi_conc (show conc 0 = true by decide)] at e1
   rw [vi_conc (show conc 65535 = true by decide)] at e2
   simp only [evD, ibin, intOf] at e3 e4 e5
   rw [vi_conc (show conc 65534 = true by decide), wrap_sm (by omega) (by omega), Option.some.injEq] at e3
   rw [vi_conc (show conc 65535 = true by decide), if_neg (by decide)] at e4
   simp only [intOf, Option.some.injEq] at e4
   rw [← e3, Int.tmod_eq_emod_of_nonneg (by omega)] at e4
   have hm := Int.emod_nonneg (vi ρ n + 65534) (show (65535 : Int) ≠ 0 by decide)
   have hl := Int.emod_lt_of_pos (vi ρ n + 65534) (show (0 : Int) < 65535 by decide)
   rw [vi_conc (show conc 1 = true by decide), ← e4, wrap_sm (by omega) (by omega), Option.some.injEq] at e5
   refine ⟨n, z3, s5, rfl, ?_, h⟩
   rw [← e5]
   split <;> omega
 ·cases h
structure Site (c : Code) (a d v : Nat) : Prop where
 e : c = .seq (.region (rid (cL c)) #[opAt (cL c) 0, opAt (cL c) 1] false) (.cond (.tmp d) (.region (rid (cL (cR c))) #[opAt (cL (cR c)) 0] false) .skip)
 o0 : (opAt (cL c) 0).op = .move (.tmp v)
 d0 : (opAt (cL c) 0).dst = some a
 g0 : (opAt (cL c) 0).guard = none
 o1 : (opAt (cL c) 1).op = .binOp .eql 3 (.tmp a) (.const (.int .i64 0)) 3
 d1 : (opAt (cL c) 1).dst = some d
 g1 : (opAt (cL c) 1).guard = none
 o2 : (opAt (cL (cR c)) 0).op = .assign (.const (.int .i64 65535))
 d2 : (opAt (cL (cR c)) 0).dst = some v
 g2 : (opAt (cL (cR c)) 0).guard = none
 av : a ≠ v
 dv : d ≠ v
theorem site_ok {x : X} {call : FuncId → List V → H → Option (V × H)} {c : Code} {a d v : Nat} (S : Site c a d v) {e : Env} {h : H} {z : Int} (hz : e.get v = some (.i .i64 z)) :
  code x call 100000 c e h = some (.n, ((e.put a (some (.i .i64 z))).put d (some (.b (decide (z = 0))))).put v (some (.i .i64 (if z = 0 then 65535 else z))), h) := by
 rw [S.e]
 have c0 : cls x (opAt (cL c) 0) = .p := by unfold cls; rw [S.o0]
 have c1 : cls x (opAt (cL c) 1) = .p := by unfold cls; rw [S.o1]
 have c2 : cls x (opAt (cL (cR c)) 0) = .p := by unfold cls; rw [S.o2]
 have p0 : ∀ e : Env, e.get v = some (.i .i64 z) → op1 x call e h (opAt (cL c) 0) = some (.i .i64 z, h) := fun e he => by
  unfold op1; rw [c0]; simp only [opP, S.o0, ev, gv, he, Option.getD_some]
 have p1 : op1 x call (e.put a (some (.i .i64 z))) h (opAt (cL c) 1) = some (.b (decide (z = 0)), h) := by
  unfold op1; rw [c1]
  simp only [opP, S.o1, ev, gv, T.get_put, if_true, Option.getD_some, ofVal, binC, bin, ibin]
 have p2 : ∀ e : Env, op1 x call e h (opAt (cL (cR c)) 0) = some (.i .i64 65535, h) := fun e => by
  unfold op1; rw [c2]; simp only [opP, S.o2, ev, ofVal]
 have w0 : ∀ e l, wantA e l (opAt (cL c) 0) = true := fun e l => by simp only [wantA, S.g0]
 have w1 : ∀ e l, wantA e l (opAt (cL c) 1) = true := fun e l => by simp only [wantA, S.g1]
 have w2 : ∀ e l, wantA e l (opAt (cL (cR c)) 0) = true := fun e l => by simp only [wantA, S.g2]
 have hd : ∀ e : Env, ev ((e.put a (some (.i .i64 z))).put d (some (.b (decide (z = 0))))) (.tmp d) = .b (decide (z = 0)) := fun e => by
  simp only [ev, gv, T.get_put, if_true, Option.getD_some]
 simp only [code, region, cond_false, seqR, w0, cond_true, p0 e hz, fV_eq, T.seq_eq, S.d0, putD, w1, p1, S.d1, hd]
 by_cases h0 : z = 0
 ·simp only [h0, decide_true, if_true, w2, cond_true, p2, S.d2, putD]
 ·simp only [h0, decide_false, if_false]
  have hg : ((e.put a (some (.i .i64 z))).put d (some (.b false))).get v = some (.i .i64 z) := by
   rw [T.get_put, if_neg S.dv, T.get_put, if_neg S.av]
   exact hz
  rw [T.put_get hg]
noncomputable def selG (v : Nat) (J : FE → H → Sy → R) : FE → H → Sy → R := fun e h s => selC (e v) s fun w s => J (updF e (some v) w) h s
noncomputable def codeSp (p : Pr) (x : X) (inf : Inf) (call : CT) (v : Nat) : Nat → Code → KT → FE → H → Sy → R
 | 0, n, κ => selG v fun e h s => codeG p x inf call 100000 (cR n) e h s κ
 | m + 1, n, κ => fun e h s => codeG p x inf call 100000 (cL n) e h s (ks (codeSp p x inf call v m (cR n) κ) κ)
def SiteAt (a d v : Nat) : Nat → Code → Prop
 | 0, n => n = .seq (cL n) (cR n) ∧ Site (cL n) a d v
 | m + 1, n => n = .seq (cL n) (cR n) ∧ SiteAt a d v m (cR n)
def restAt : Nat → Code → Code
 | 0, n => cR n
 | m + 1, n => restAt m (cR n)
theorem codeSp_ok {P : Program} {inf : Inf} {callY : CT} {call : FuncId → List V → H → Option (V × H)} (hinf : (mkX P).tt.get = inf) (C : CallOk ρ callY call) (G : CallGd call) (hx : XClean (mkX P)) {a d v : Nat} {κ : KT} :
  ∀ (m : Nat) (c : Code) {E : Env} {h : H} {s : Sy} {r : (V × H) × Sy}, SiteAt a d v m c → codeClean c = true →
  (∀ e y z h s, codeG pr0 (mkX P) inf callY 100000 (restAt m c) (updF (updF e (some a) y) (some d) z) h s κ = codeG pr0 (mkX P) inf callY 100000 (restAt m c) e h s κ) →
  (∀ e y z h s w, codeG pr0 (mkX P) inf callY 100000 (restAt m c) (updF (updF (updF e (some a) y) (some d) z) (some v) w) h s κ = codeG pr0 (mkX P) inf callY 100000 (restAt m c) (updF e (some v) w) h s κ) →
  (codeSp pr0 (mkX P) inf callY v m c κ (gv E) h s).run ρ = some r →
  ∃ q E' h' s', code (mkX P) call 100000 c (valE ρ E) (valH ρ h) = some (q, valE ρ E', valH ρ h') ∧ (κ q (gv E') h' s').run ρ = some r
 | 0, c, E, h, s, r, S, hc, _, hI, hr => by
  obtain ⟨e1, S⟩ := S
  simp only [codeSp, selG] at hr
  obtain ⟨n, w, s1, hv, hw, hr⟩ := selC_run hr
  rw [e1] at hc
  simp only [codeClean, Bool.and_eq_true] at hc
  have hE : E.get v = some (.i .i64 n) := by
   unfold gv at hv
   cases h0 : E.get v with
   | none => rw [h0] at hv; cases hv
   | some y => rw [h0] at hv; exact congrArg some hv
  have hz : (valE ρ E).get v = some (.i .i64 (vi ρ n)) := by
   simp only [valE, T.get_mp, hE, Option.map_some, val]
  have hs := site_ok (x := mkX P) (call := call) S (h := valH ρ h) hz
  have hr2 : (codeG pr0 (mkX P) inf callY 100000 (cR c) (gv (((E.put a (some (.i .i64 n))).put d (some (.b (decide (vi ρ n = 0))))).put v (some (.i .i64 w)))) h s1 κ).run ρ = some r := by
   have e2 := updF_eq ((E.put a (some (.i .i64 n))).put d (some (.b (decide (vi ρ n = 0))))) (some v) (.i .i64 w)
   have e3 := updF_eq (E.put a (some (.i .i64 n))) (some d) (.b (decide (vi ρ n = 0)))
   have e4 := updF_eq E (some a) (.i .i64 n)
   simp only [putD] at e2 e3 e4
   rw [← e2, ← e3, ← e4]
   have := hI (gv E) (.i .i64 n) (.b (decide (vi ρ n = 0))) h s1 (.i .i64 w)
   simp only [restAt] at this
   rw [this]
   exact hr
  obtain ⟨q, E', h', s', h2, h3⟩ := codeG_ok hinf C G hx 100000 (cR c) hc.2 hr2
  have h4 := codeY_ok C hx 100000 (cR c) hc.2 h2
  refine ⟨q, E', h', s', ?_, h3⟩
  have e5 : valE ρ (((E.put a (some (.i .i64 n))).put d (some (.b (decide (vi ρ n = 0))))).put v (some (.i .i64 w))) = (((valE ρ E).put a (some (.i .i64 (vi ρ n)))).put d (some (.b (decide (vi ρ n = 0))))).put v (some (.i .i64 (if vi ρ n = 0 then 65535 else vi ρ n))) := by
   simp only [valE, T.put_mp, Option.map_some, val, hw]
  rw [e5] at h4
  rw [e1]
  simp only [code, hs, h4]
 | m + 1, c, E, h, s, r, S, hc, hJ, hI, hr => by
  obtain ⟨e1, S⟩ := S
  simp only [codeSp] at hr
  rw [e1] at hc
  simp only [codeClean, Bool.and_eq_true] at hc
  obtain ⟨q, E1, h1, s1, h2, h3⟩ := codeG_ok hinf C G hx 100000 (cL c) hc.1 hr
  have h4 := codeY_ok C hx 100000 (cL c) hc.1 h2
  cases q with
  | n =>
   obtain ⟨q, E', h', s', h5, h6⟩ := codeSp_ok hinf C G hx m (cR c) S hc.2 hJ hI h3
   refine ⟨q, E', h', s', ?_, h6⟩
   rw [e1]
   simp only [code, h4, h5]
  | x id =>
   refine ⟨.x id, E1, h1, s1, ?_, h3⟩
   rw [e1]
   simp only [code, h4]
  | r =>
   refine ⟨.r, E1, h1, s1, ?_, h3⟩
   rw [e1]
   simp only [code, h4]
theorem fast_sel {P : Program} {inf : Inf} {f : FuncId} {fn : Func} {c : Code} {a d v m : Nat} {F : X → CT → List V → H → M (V × H)} (hinf : (mkX P).tt.get = inf) (hf : (mkX P).ft.get f = some fn) (hok : (fnOk (mkX P) fn && fnClean fn) = true) (hb : fn.body = some c) (S : SiteAt a d v m c)
  (hJ : ∀ x call e y z h s, codeG pr0 x inf call 100000 (restAt m c) (updF (updF e (some a) y) (some d) z) h s (finG pr0 inf fn.results.toList) = codeG pr0 x inf call 100000 (restAt m c) e h s (finG pr0 inf fn.results.toList))
  (hI : ∀ x call e y z h s w, codeG pr0 x inf call 100000 (restAt m c) (updF (updF (updF e (some a) y) (some d) z) (some v) w) h s (finG pr0 inf fn.results.toList) = codeG pr0 x inf call 100000 (restAt m c) (updF e (some v) w) h s (finG pr0 inf fn.results.toList))
  (hF : ∀ x call args h s, Good (F x call args h s) (codeSp pr0 x inf call v m c (finG pr0 inf fn.results.toList) (argF args) h s)) : FastOk P 100000 f F := by
 intro ρ callY n C hx args h s v' h' s' hh
 have hr : (codeSp pr0 (mkX P) inf callY v m c (finG pr0 inf fn.results.toList) (gv (env0 args 0 .l)) h s).run ρ = some ((v', h'), s') := by
  rw [← argF_eq]
  rcases hF (mkX P) callY args h s with e | e
  ·unfold Runs at hh; rw [e] at hh; cases hh
  ·rw [← e]; exact hh
 rw [Bool.and_eq_true] at hok
 have hcl := hok.2
 unfold fnClean at hcl
 rw [hb] at hcl
 simp only at hcl
 obtain ⟨q, E', h1, s1, h4, h3⟩ := codeSp_ok hinf C (gd_sem (P := P) 100000 n) hx m c S hcl (hJ _ _) (hI _ _) hr
 have he : valE ρ (env0 args 0 .l) = env0 (vals ρ args) 0 .l := by rw [← env0_val]; rfl
 rw [he] at h4
 simp only [sem, hf, hb, hok.1, cond_true, h4]
 have fin : (resG pr0 inf (gv E') h1 fn.results.toList fun vs => .ret ((resV vs, h1), s1)).run ρ = some ((v', h'), s') → (match resL (mkX P) (valE ρ E') (valH ρ h1) fn.results.toList with
    | some vs => some (resV vs, valH ρ h1)
    | none => none) = some (val ρ v', valH ρ h') := by
  intro h5
  rw [← hinf] at h5
  obtain ⟨vs, h6, h7⟩ := resG_ok h5
  simp only [Tr.run, Option.some.injEq, Prod.mk.injEq] at h7
  obtain ⟨⟨h7, h8⟩, _⟩ := h7
  subst h7; subst h8
  rw [resL_val _ h6, ← resV_val]
 cases q with
 | n => exact fin h3
 | x id => cases h3
 | r => exact fin h3
end
end Go.Am
namespace Go.Am
open Go.Am.Ck
def putX {A : Type} : Nat → List A → T A → T A
 | _, [], m => m
 | i, x :: r, m => T.seq (m.put i (some x)) fun m => putX (i + 1) r m
theorem putX_get {A : Type} : ∀ (l : List A) (i : Nat) (m : T A) (k : Nat) (x : A), (putX i l m).get k = some x → (∃ q, k = i + q ∧ l[q]? = some x) ∨ m.get k = some x
 | [], i, m, k, x, h => .inr h
 | y :: r, i, m, k, x, h => by
  simp only [putX, T.seq_eq] at h
  rcases putX_get r (i + 1) _ k x h with ⟨q, rfl, hq⟩ | h
  ·exact .inl ⟨q + 1, by omega, by simpa using hq⟩
  ·rw [T.get_put] at h
   by_cases e : i = k
   ·subst e
    rw [if_pos rfl] at h
    exact .inl ⟨0, rfl, by simpa using h⟩
   ·rw [if_neg e] at h
    exact .inr h
def nlF : Nat → List Nx → List (Nat × Lf)
 | _, [] => []
 | i, x :: r => (i, x.f) :: nlF (i + 1) r
theorem nlF_mem : ∀ (l : List Nx) (i : Nat) (p : Nat × Lf), p ∈ nlF i l → ∃ q x, p = (i + q, x.f) ∧ l[q]? = some x
 | [], _, _, h => absurd h List.not_mem_nil
 | y :: r, i, p, h => by
  rcases List.mem_cons.1 h with rfl | h
  ·exact ⟨0, y, rfl, rfl⟩
  ·obtain ⟨q, x, rfl, hq⟩ := nlF_mem r (i + 1) p h
   exact ⟨q + 1, x, by rw [show i + 1 + q = i + (q + 1) by omega], by simpa using hq⟩
def begF (av : List (Int × Int)) (fs : List Nx) : Wk := ⟨⟨fs.length, av.length, putX 0 fs .l, putX 0 av .l, []⟩, 0, nlF 0 fs, [], []⟩
def RepL (na : Nat) (α : Nat → Int) : List Nx → List Int → Prop
 | [], [] => True
 | x :: r, v :: s => Rep na α x v ∧ RepL na α r s
 | _, _ => False
theorem RepL.get {na : Nat} {α : Nat → Int} : ∀ {fs : List Nx} {l : List Int}, RepL na α fs l → l.length = fs.length ∧ ∀ q x, fs[q]? = some x → Rep na α x (l.getD q 0)
 | [], [], _ => ⟨rfl, fun q x h => by simp at h⟩
 | [], _ :: _, h => h.elim
 | _ :: _, [], h => h.elim
 | y :: r, v :: s, h => by
  obtain ⟨e, hr⟩ := RepL.get h.2
  refine ⟨by rw [List.length_cons, List.length_cons, e], fun q x hq => ?_⟩
  cases q with
  | zero =>
   simp only [List.getElem?_cons_zero, Option.some.injEq] at hq
   subst hq
   exact h.1
  | succ q => exact hr q x (by simpa using hq)
theorem begF_ok {av : List (Int × Int)} {fs : List Nx} {l a : List Int} (ha : Fits a av) (hr : RepL av.length (fun i => a.getD i 0) fs l) : WFit (begF av fs) l (fun i => a.getD i 0) (fun _ => 0) := by
 obtain ⟨hl, hr⟩ := hr.get
 refine ⟨⟨hl, fun i x hx => ?_, fun i x hx => ?_, fun e he => absurd he List.not_mem_nil⟩, fun p hp => ?_, fun p hp => absurd hp List.not_mem_nil, fun p hp => absurd hp List.not_mem_nil⟩
 ·rcases putX_get fs 0 .l i x hx with ⟨q, rfl, hq⟩ | h
  ·rw [Nat.zero_add]
   exact ⟨(List.getElem?_eq_some_iff.1 hq).1, hr q x hq⟩
  ·cases h
 ·rcases putX_get av 0 .l i x hx with ⟨q, rfl, hq⟩ | h
  ·rw [Nat.zero_add]
   exact ha.2 q x.1 x.2 hq
  ·cases h
 ·obtain ⟨q, x, rfl, hq⟩ := nlF_mem fs 0 p hp
  rw [Nat.zero_add]
  have := hr q x hq
  exact ⟨by rw [hl]; exact (List.getElem?_eq_some_iff.1 hq).1, this.1, this.2.1⟩
structure Cl where
 gap : Nat
 f : FuncId
 args : List V
 v : V
structure Mt where
 nx : Nat
 l : List (Nat × B)
def Mt.h (t : Mt) : H := ⟨t.nx, layB t.l⟩
def callsY (callY : FuncId → List V → H → M (V × H)) : List Cl → H → M H
 | [], h => pureM h
 | c :: r, h => bindM (callY c.f c.args ⟨h.next + c.gap, h.mem⟩) fun p => bif sameV p.1 c.v then callsY callY r p.2 else failM
def Chain (call : FuncId → List V → H → Option (V × H)) : List Cl → H → H → Prop
 | [], h, h' => h = h'
 | c :: r, h, h' => ∃ h1, call c.f c.args ⟨h.next + c.gap, h.mem⟩ = some (c.v, h1) ∧ Chain call r h1 h'
def valC (σ : Nat → Int) (c : Cl) : Cl := ⟨c.gap, c.f, vals σ c.args, val σ c.v⟩
def valL (σ : Nat → Int) (l : List (Nat × B)) : List (Nat × B) := l.map fun p => (p.1, valB σ p.2)
theorem callsY_ok {ρ : Nat → Int} {callY : FuncId → List V → H → M (V × H)} {call : FuncId → List V → H → Option (V × H)} (C : CallOk ρ callY call) : ∀ (cs : List Cl) {h h' : H} {s s' : Sy}, Runs ρ (callsY callY cs h) s h' s' → Chain call (cs.map (valC ρ)) (valH ρ h) (valH ρ h')
 | [], h, h', s, s', hh => by rw [(runs_pure hh).1]; rfl
 | c :: r, h, h', s, s', hh => by
  obtain ⟨⟨v, h1⟩, s1, h2, h3⟩ := runs_bind hh
  simp only at h3
  cases e : sameV v c.v with
  | false => rw [e, cond_false] at h3; exact (runs_fail h3).elim
  | true =>
   rw [e, cond_true] at h3
   refine ⟨valH ρ h1, ?_, callsY_ok C r h3⟩
   have e2 : v = c.v := sameV_eq _ _ e
   subst e2
   exact C _ _ _ _ _ _ _ h2
def okM (t : Mt) (h : H) : Bool := Nat.beq h.next t.nx && t.l.all fun x => match h.mem.get x.1 with
 | some b => sameBl b x.2
 | none => false
theorem okM_ok {t : Mt} {h : H} (hh : okM t h = true) : Sub t.h h := by
 simp only [okM, Bool.and_eq_true] at hh
 refine ⟨Nat.eq_of_beq_eq_true hh.1, fun r b hb => ?_⟩
 have := List.all_eq_true.1 hh.2 _ (layB_get hb)
 simp only at this
 split at this
 ·rename_i b' hb'
  rw [hb', sameBl_eq this]
 ·cases this
def bnC (n : Nat) (c : Cl) : Bool := bnVs n c.args && bnV n c.v
theorem valC_bn {ρ σ : Nat → Int} {n : Nat} (h : ∀ i, i < n → ρ i = σ i) {cs : List Cl} (hc : cs.all (bnC n) = true) : cs.map (valC ρ) = cs.map (valC σ) :=
 List.map_congr_left fun c hm => by
  have := List.all_eq_true.1 hc c hm
  simp only [bnC, Bool.and_eq_true] at this
  simp only [valC, vals_bn h _ this.1, val_bn h _ this.2]
theorem layB_mp (f : B → B) : ∀ l : List (Nat × B), (layB l).mp f = layB (l.map fun p => (p.1, f p.2))
 | [] => rfl
 | (r, b) :: l => by
  simp only [layB, List.map_cons, T.put_mp, Option.map_some, layB_mp f l]
theorem valH_lay (σ : Nat → Int) (t : Mt) : valH σ t.h = Mt.h ⟨t.nx, valL σ t.l⟩ := by
 simp only [valH, Mt.h, layB_mp, valL]
noncomputable def runC (x : X) (tab : Tab) (n : Nat) (cs : List Cl) (a t : Mt) (av : List (Int × Int)) (fs : List Nx) : Bool :=
 bnL fs.length a.l && bnL fs.length t.l && cs.all (bnC fs.length) && wk (fun p W => Nat.ble W.S.n chB && okM t p.1) (callsY (semT x tab 100000 n) cs a.h ⟨0, .auto, [], []⟩) (begF av fs)
theorem runC_ok {P : Program} {x : X} (hX : mkX P = x) {tab : Tab} {n : Nat} {cs : List Cl} {a t : Mt} {av : List (Int × Int)} {fs : List Nx} {l w : List Int} (hx : xClean (mkX P) = true) (ht : TabOk P 100000 tab) (hr : runC x tab n cs a t av fs = true) (hw : Fits w av) (hl : RepL av.length (fun i => w.getD i 0) fs l) :
  ∃ h', Chain (sem (mkX P) 100000 n) (cs.map (valC fun i => l.getD i 0)) (Mt.h ⟨a.nx, valL (fun i => l.getD i 0) a.l⟩) h' ∧ Sub (Mt.h ⟨t.nx, valL (fun i => l.getD i 0) t.l⟩) h' := by
 subst hX
 unfold runC at hr
 rw [Bool.and_eq_true, Bool.and_eq_true, Bool.and_eq_true] at hr
 obtain ⟨k, α, c, W, ⟨h, s⟩, h1, h2, h3, _, _⟩ := wk_ok (begF_ok hw hl) hr.2
 rw [Bool.and_eq_true] at h2
 obtain ⟨ρ, h4, h5⟩ := agr_ex h1 h2.1
 have h6 := callsY_ok (semT_ok (xClean_ok hx) ht n) cs (h3 ρ h4)
 have hag : ∀ i, i < fs.length → ρ i = (fun i => l.getD i 0) i := fun i hi => h5 i (by rw [hl.get.1]; exact hi)
 have e1 : valH ρ a.h = valH (fun i => l.getD i 0) a.h := by simp only [valH, Mt.h, layB_bn hag _ hr.1.1.1]
 have e2 : valH ρ t.h = valH (fun i => l.getD i 0) t.h := by simp only [valH, Mt.h, layB_bn hag _ hr.1.1.2]
 refine ⟨valH ρ h, ?_, ?_⟩
 ·rw [← valH_lay, ← e1, ← valC_bn hag hr.1.2]
  exact h6
 ·rw [← valH_lay, ← e2]
  exact sub_valH (okM_ok h2.2)
theorem vi_n (σ : Nat → Int) (k : Nat) (d : Int) (z : Int) (hz : z = (nameB : Int) + (midB : Int) + d + (stepB : Int) * (k : Int)) (h1 : -1000000000000 ≤ d) (h2 : d ≤ 1000000000000) : vi σ z = σ k + d := by
 rw [hz]; exact vi_off h1 h2
end Go.Am
