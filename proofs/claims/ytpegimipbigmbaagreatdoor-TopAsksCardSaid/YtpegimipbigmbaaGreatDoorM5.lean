/- A checker of trees: its state, quotients and remainders, what is reckoned. -/
import Derived.Test.YtpegimipbigmbaaGreatDoorM4
set_option linter.unusedSimpArgs false
set_option linter.unusedVariables false
set_option linter.unusedSectionVars false
set_option linter.unnecessarySimpa false
namespace Go.Am.Ck
open Go.Am
structure Gh where
 x : Nx
 p : Int
 q : Nat
structure Sv where
 n : Nat
 na : Nat
 nm : T Nx
 at_ : T (Int × Int)
 gh : List Gh
def GhOk (na : Nat) (α : Nat → Int) (e : Gh) : Prop := (e.p = 0 → e.x.f.bd na ∧ e.x.f.ev α = 0) ∧ (e.p = -1 → e.x.f.bd na ∧ e.x.f.ev α ≠ 0) ∧ (0 < e.p → Rep na α e.x (e.x.f.ev α) ∧ e.q < na ∧ α e.q = e.x.f.ev α / e.p)
structure Fit (S : Sv) (l : List Int) (α : Nat → Int) : Prop where
 n : l.length = S.n
 nm : ∀ i x, S.nm.get i = some x → i < S.n ∧ Rep S.na α x (l.getD i 0)
 at_ : Atm S.at_ α
 gh : ∀ e ∈ S.gh, GhOk S.na α e
def updA (α : Nat → Int) (n : Nat) (v : Int) : Nat → Int := fun i => if i = n then v else α i
theorem updA_lt {α : Nat → Int} {n : Nat} {v : Int} {i : Nat} (h : i < n) : updA α n v i = α i := if_neg (by omega)
theorem updA_eq {α : Nat → Int} {n : Nat} {v : Int} : updA α n v n = v := if_pos rfl
def Post (S : Sv) (l : List Int) (α : Nat → Int) (v : Int) (κ : Sv → Nx → Bool) : Prop :=
 ∃ S' α' y, Fit S' l α' ∧ S.na ≤ S'.na ∧ (∀ i, i < S.na → α' i = α i) ∧ Rep S'.na α' y v ∧ κ S' y = true
section
variable {S : Sv} {l : List Int} {α : Nat → Int}
theorem Post.here {v : Int} {κ : Sv → Nx → Bool} {y : Nx} (F : Fit S l α) (h : Rep S.na α y v) (k : κ S y = true) : Post S l α v κ := ⟨S, α, y, F, Nat.le_refl _, fun _ _ => rfl, h, k⟩
theorem Post.then {v w : Int} {κ κ' : Sv → Nx → Bool} (h : Post S l α v κ) (k : ∀ S' α' y, Fit S' l α' → S.na ≤ S'.na → (∀ i, i < S.na → α' i = α i) → Rep S'.na α' y v → κ S' y = true → Post S' l α' w κ') : Post S l α w κ' := by
 obtain ⟨S1, α1, y, F1, h1, h2, h3, h4⟩ := h
 obtain ⟨S2, α2, y2, F2, k1, k2, k3, k4⟩ := k S1 α1 y F1 h1 h2 h3 h4
 exact ⟨S2, α2, y2, F2, Nat.le_trans h1 k1, fun i hi => by rw [k2 i (Nat.lt_of_lt_of_le hi h1), h2 i hi], k3, k4⟩
theorem Fit.atom (F : Fit S l α) {lo hi v : Int} (h1 : lo ≤ v) (h2 : v ≤ hi) : Fit ⟨S.n, S.na + 1, S.nm, S.at_.put S.na (some (lo, hi)), S.gh⟩ l (updA α S.na v) := by
 refine ⟨F.n, fun i x hx => ⟨(F.nm i x hx).1, (F.nm i x hx).2.congr (Nat.le_succ _) fun j hj => updA_lt hj⟩, fun i x hx => ?_, fun e he => ?_⟩
 ·rw [T.get_put] at hx
  by_cases e : S.na = i
  ·subst e
   rw [if_pos rfl, Option.some.injEq] at hx
   subst hx
   rw [updA_eq]
   exact ⟨h1, h2⟩
  ·rw [if_neg e] at hx
   have := F.at_ i x hx
   have e' : updA α S.na v i = α i := if_neg fun h => e h.symm
   rw [e']; exact this
 ·refine ⟨fun h0 => ?_, fun h0 => ?_, fun h0 => ?_⟩
  ·obtain ⟨a, b⟩ := (F.gh e he).1 h0
   exact ⟨bdl_mono (Nat.le_succ _) a, by rw [Lf.ev_congr (fun i hi => updA_lt hi) a]; exact b⟩
  ·obtain ⟨a, b⟩ := (F.gh e he).2.1 h0
   exact ⟨bdl_mono (Nat.le_succ _) a, by rw [Lf.ev_congr (fun i hi => updA_lt hi) a]; exact b⟩
  obtain ⟨b, c, d⟩ := (F.gh e he).2.2 h0
  have hv : e.x.f.ev (updA α S.na v) = e.x.f.ev α := Lf.ev_congr (fun i hi => updA_lt hi) b.1
  refine ⟨?_, Nat.lt_succ_of_lt c, by rw [updA_lt c, hv]; exact d⟩
  rw [hv]
  exact b.congr (Nat.le_succ _) fun j hj => updA_lt hj
def atomK (S : Sv) (lo hi : Int) (κ : Sv → Nx → Bool) : Bool :=
 fI lo fun lo => fI hi fun hi => T.seq (S.at_.put S.na (some (lo, hi))) fun m => fN (S.na + 1) fun na => κ ⟨S.n, na, S.nm, m, S.gh⟩ ⟨⟨0, [(S.na, 1)]⟩, lo, hi⟩
theorem rep_atom {na : Nat} {α : Nat → Int} {v lo hi : Int} {a : Nat} (ha : a < na) (e : α a = v) (h1 : lo ≤ v) (h2 : v ≤ hi) : Rep na α ⟨⟨0, [(a, 1)]⟩, lo, hi⟩ v := by
 refine ⟨fun p hp => ?_, ?_, h1, h2⟩
 ·rw [List.mem_singleton] at hp; subst hp; exact ha
 ·simp only [Lf.ev, evl, e]; omega
theorem atomK_ok (F : Fit S l α) {lo hi v : Int} {κ : Sv → Nx → Bool} (h1 : lo ≤ v) (h2 : v ≤ hi) (h : atomK S lo hi κ = true) : Post S l α v κ := by
 simp only [atomK, fI_eq, fN_eq, T.seq_eq] at h
 exact ⟨_, _, _, F.atom h1 h2, Nat.le_succ _, fun i hi => updA_lt hi, rep_atom (Nat.lt_succ_self _) updA_eq h1 h2, h⟩
def nK (S : Sv) (x : Nx) (κ : Sv → Nx → Bool) : Bool := fNx x fun x => fNx (nrm S.at_ x) fun x => κ S x
theorem nK_ok (F : Fit S l α) {x : Nx} {v : Int} (hx : Rep S.na α x v) {κ : Sv → Nx → Bool} (h : nK S x κ = true) : Post S l α v κ := by
 simp only [nK, fNx_eq] at h
 exact .here F (nrm_ok F.at_ hx) h
def sameT : List (Nat × Int) → List (Nat × Int) → Bool
 | [], [] => true
 | p :: a, q :: b => Nat.beq p.1 q.1 && sameI p.2 q.2 && sameT a b
 | _, _ => false
theorem sameT_ok : ∀ {a b : List (Nat × Int)}, sameT a b = true → a = b
 | [], [], _ => rfl
 | [], _ :: _, h => by cases h
 | _ :: _, [], h => by cases h
 | p :: a, q :: b, h => by
  simp only [sameT, Bool.and_eq_true] at h
  have e1 := Nat.eq_of_beq_eq_true h.1.1
  have e2 := sameI_eq h.1.2
  rw [sameT_ok h.2, show p = q from Prod.ext e1 e2]
def Lf.same (f g : Lf) : Bool := sameI f.c g.c && sameT f.t g.t
theorem Lf.same_ok {f g : Lf} (h : f.same g = true) : f = g := by
 simp only [Lf.same, Bool.and_eq_true] at h
 cases f; cases g
 simp only at h
 rw [sameI_eq h.1, sameT_ok h.2]
def restT (p : Int) : List (Nat × Int) → List (Nat × Int)
 | [] => []
 | e :: r => bif sameI (e.2 % p) 0 then restT p r else e :: restT p r
def quotT (p : Int) : List (Nat × Int) → List (Nat × Int)
 | [] => []
 | e :: r => bif sameI (e.2 % p) 0 then (e.1, e.2 / p) :: quotT p r else quotT p r
theorem split_ev {α : Nat → Int} {p : Int} : ∀ (t : List (Nat × Int)), evl α t = p * evl α (quotT p t) + evl α (restT p t)
 | [] => by simp [evl, quotT, restT]
 | e :: r => by
  simp only [quotT, restT]
  cases h : sameI (e.2 % p) 0 with
  | true =>
   have h0 := sameI_eq h
   have hd : e.2 = p * (e.2 / p) := by have := Int.mul_ediv_add_emod e.2 p; omega
   have ih := split_ev (α := α) (p := p) r
   simp only [cond_true, evl, Int.mul_add]
   rw [← Int.mul_assoc, ← hd]
   omega
  | false =>
   have ih := split_ev (α := α) (p := p) r
   simp only [cond_false, evl]
   omega
theorem restT_bd {n : Nat} {p : Int} : ∀ {t : List (Nat × Int)}, bdl n t → bdl n (restT p t)
 | [], h => h
 | e :: r, h => by
  have hr : bdl n r := fun q hq => h q (List.mem_cons_of_mem _ hq)
  simp only [restT]
  cases sameI (e.2 % p) 0 with
  | true => exact restT_bd hr
  | false => exact fun q hq => (List.mem_cons.1 hq).elim (fun e' => e' ▸ h e (List.mem_cons_self ..)) (restT_bd hr q)
theorem quotT_bd {n : Nat} {p : Int} : ∀ {t : List (Nat × Int)}, bdl n t → bdl n (quotT p t)
 | [], h => h
 | e :: r, h => by
  have hr : bdl n r := fun q hq => h q (List.mem_cons_of_mem _ hq)
  simp only [quotT]
  cases sameI (e.2 % p) 0 with
  | true => exact fun q hq => (List.mem_cons.1 hq).elim (fun e' => by subst e'; exact h e (List.mem_cons_self ..)) (quotT_bd hr q)
  | false => exact quotT_bd hr
def findG : List Gh → Lf → Int → Option Gh
 | [], _, _ => none
 | e :: r, f, p => bif sameI e.p p && e.x.f.same f then some e else findG r f p
theorem findG_ok : ∀ {g : List Gh} {f : Lf} {p : Int} {e : Gh}, findG g f p = some e → e ∈ g ∧ e.p = p ∧ e.x.f = f
 | [], _, _, _, h => by cases h
 | a :: r, f, p, e, h => by
  simp only [findG] at h
  cases hc : sameI a.p p && a.x.f.same f with
  | true =>
   rw [hc] at h
   simp only [cond_true, Option.some.injEq] at h
   subst h
   rw [Bool.and_eq_true] at hc
   exact ⟨List.mem_cons_self .., sameI_eq hc.1, Lf.same_ok hc.2⟩
  | false =>
   rw [hc] at h
   obtain ⟨a1, a2, a3⟩ := findG_ok h
   exact ⟨List.mem_cons_of_mem _ a1, a2, a3⟩
def tkK {β γ : Type} : Nat → List γ → (List γ → β) → β
 | 0, _, k => k []
 | _ + 1, [], k => k []
 | n + 1, a :: l, k => tkK n l fun r => k (a :: r)
theorem tkK_eq {β γ : Type} : ∀ (n : Nat) (l : List γ) (k : List γ → β), tkK n l k = k (l.take n)
 | 0, _, _ => rfl
 | _ + 1, [], _ => rfl
 | n + 1, a :: l, k => by rw [tkK, tkK_eq n l]; rfl
def quoA (S : Sv) (x : Nx) (p : Int) (κ : Sv → Nx → Nx → Bool) : Bool :=
 fI (x.lo / p) fun a => fI (x.hi / p) fun b =>
 bif sameI a b then fI (p * a) fun d => fNx ⟨x.f.addc (-d), x.lo - d, x.hi - d⟩ fun r => κ S ⟨⟨a, []⟩, a, a⟩ r
 else fLf ⟨x.f.c % p, restT p x.f.t⟩ fun R =>
  match (match ivT S.at_ R.t with | some y => bif leI 0 (R.c + y.1) && leI (R.c + y.2 + 1) p then some y else none | none => none) with
  | some y => fNx ⟨⟨x.f.c / p, quotT p x.f.t⟩, a, b⟩ fun q => fNx ⟨R, R.c + y.1, R.c + y.2⟩ fun r => κ S q r
  | none => match findG S.gh x.f p with
   | some e => fNx ⟨x.f.add ⟨0, [(e.q, -p)]⟩, 0, p - 1⟩ fun r => κ S ⟨⟨0, [(e.q, 1)]⟩, a, b⟩ r
   | none => T.seq (S.at_.put S.na (some (a, b))) fun m => fN (S.na + 1) fun na => tkK 63 S.gh fun g => fNx ⟨x.f.add ⟨0, [(S.na, -p)]⟩, 0, p - 1⟩ fun r => κ ⟨S.n, na, S.nm, m, ⟨x, p, S.na⟩ :: g⟩ ⟨⟨0, [(S.na, 1)]⟩, a, b⟩ r
theorem quoA_ok (F : Fit S l α) {x : Nx} {z p : Int} {κ : Sv → Nx → Nx → Bool} (hx : Rep S.na α x z) (hp : 0 < p) (h : quoA S x p κ = true) :
  ∃ S' α' q r, Fit S' l α' ∧ S.na ≤ S'.na ∧ (∀ i, i < S.na → α' i = α i) ∧ Rep S'.na α' q (z / p) ∧ Rep S'.na α' r (z % p) ∧ κ S' q r = true := by
 obtain ⟨h1, h2, h3, h4⟩ := hx
 have ha := Int.ediv_le_ediv hp h3
 have hb := Int.ediv_le_ediv hp h4
 have hm := Int.mul_ediv_add_emod z p
 have hm0 := Int.emod_nonneg z (show p ≠ 0 by omega)
 have hm1 := Int.emod_lt_of_pos z hp
 simp only [quoA, fI_eq, fNx_eq, fLf_eq, fN_eq, tkK_eq, T.seq_eq] at h
 generalize x.lo / p = a at h ha
 generalize x.hi / p = b at h hb
 have hone : ∀ (q : Nat) (c : Int), (⟨0, [(q, c)]⟩ : Lf).ev α = c * α q := fun q c => by simp [Lf.ev, evl]
 cases e : sameI a b with
 | true =>
  have e' := sameI_eq e
  rw [e, cond_true] at h
  have hq : z / p = a := by omega
  refine ⟨S, α, _, _, F, Nat.le_refl _, fun _ _ => rfl, ?_, ?_, h⟩
  ·rw [hq]; exact rep_c a
  ·rw [hq] at hm
   exact ⟨h1, by rw [Lf.addc_ev, h2]; omega, by show x.lo - p * a ≤ _; omega, by show _ ≤ x.hi - p * a; omega⟩
 | false =>
  rw [e, cond_false] at h
  split at h
  ·rename_i y hy
   split at hy
   ·rename_i y' hiv
    cases hc : leI 0 (x.f.c % p + y'.1) && leI (x.f.c % p + y'.2 + 1) p with
    | false => rw [hc] at hy; cases hy
    | true =>
     rw [hc, cond_true, Option.some.injEq] at hy
     subst hy
     rw [Bool.and_eq_true] at hc
     have c1 := leI_iff.1 hc.1
     have c2 := leI_iff.1 hc.2
     have hr := ivT_ok F.at_ hiv
     have hs := split_ev (α := α) (p := p) x.f.t
     have hcc := Int.mul_ediv_add_emod x.f.c p
     have hz : z = x.f.c + evl α x.f.t := h2.symm
     have hu := (Int.ediv_emod_unique (a := z) (r := x.f.c % p + evl α (restT p x.f.t)) (q := x.f.c / p + evl α (quotT p x.f.t)) hp).2 ⟨by rw [Int.mul_add]; omega, by omega, by omega⟩
     refine ⟨S, α, ⟨⟨x.f.c / p, quotT p x.f.t⟩, a, b⟩, ⟨⟨x.f.c % p, restT p x.f.t⟩, x.f.c % p + y'.1, x.f.c % p + y'.2⟩, F, Nat.le_refl _, fun _ _ => rfl, ⟨quotT_bd h1, hu.1.symm, ha, hb⟩, ⟨restT_bd h1, hu.2.symm, ?_, ?_⟩, h⟩
     ·rw [hu.2]; exact Int.add_le_add_left hr.1 _
     ·rw [hu.2]; exact Int.add_le_add_left hr.2 _
   ·cases hy
  ·split at h
   ·rename_i g hg
    obtain ⟨g1, rfl, g3⟩ := findG_ok hg
    obtain ⟨f2, f3, f4⟩ := (F.gh g g1).2.2 (by omega)
    rw [g3, h2] at f4
    refine ⟨S, α, _, _, F, Nat.le_refl _, fun _ _ => rfl, rep_atom f3 f4 ha hb, ⟨Lf.bd_add h1 fun p hp => by rw [List.mem_singleton] at hp; subst hp; exact f3, ?_, hm0, by show _ ≤ g.p - 1; omega⟩, h⟩
    rw [Lf.add_ev, h2, hone, f4, Int.neg_mul]
    omega
   ·have hat := F.atom ha hb
    have hv : x.f.ev (updA α S.na (z / p)) = z := by rw [Lf.ev_congr (fun i hi => updA_lt hi) h1]; exact h2
    refine ⟨⟨S.n, S.na + 1, S.nm, S.at_.put S.na (some (a, b)), ⟨x, p, S.na⟩ :: S.gh.take 63⟩, updA α S.na (z / p), ⟨⟨0, [(S.na, 1)]⟩, a, b⟩, ⟨x.f.add ⟨0, [(S.na, -p)]⟩, 0, p - 1⟩, ⟨hat.n, hat.nm, hat.at_, fun e he => ?_⟩, Nat.le_succ _, fun i hi => updA_lt hi, rep_atom (Nat.lt_succ_self _) updA_eq ha hb, ⟨Lf.bd_add (bdl_mono (Nat.le_succ _) h1) fun p hp => ?_, ?_, hm0, by show _ ≤ p - 1; omega⟩, h⟩
    ·rcases List.mem_cons.1 he with rfl | he
     ·exact ⟨fun h0 => absurd h0 (show p ≠ 0 by omega), fun h0 => absurd h0 (show p ≠ -1 by omega), fun _ => ⟨⟨bdl_mono (Nat.le_succ _) h1, rfl, by rw [hv]; exact h3, by rw [hv]; exact h4⟩, Nat.lt_succ_self _, by rw [hv, updA_eq]⟩⟩
     ·exact hat.gh e (List.mem_of_mem_take he)
    ·rw [List.mem_singleton] at hp; subst hp; exact Nat.lt_succ_self _
    ·have : (⟨0, [(S.na, -p)]⟩ : Lf).ev (updA α S.na (z / p)) = -p * (z / p) := by simp [Lf.ev, evl, updA_eq]
     rw [Lf.add_ev, hv, this, Int.neg_mul]
     omega
theorem dv_rest {p : Int} : ∀ {t : List (Nat × Int)}, t.all (fun e => sameI (e.2 % p) 0) = true → restT p t = []
 | [], _ => rfl
 | e :: r, h => by
  rw [List.all_cons, Bool.and_eq_true] at h
  simp only [restT, h.1, cond_true, dv_rest h.2]
def quoK (S : Sv) (x : Nx) (p : Int) (κ : Sv → Nx → Nx → Bool) : Bool :=
 fN (Nat.gcd (gcdL x.f.t) (Nat.gcd x.f.c.natAbs p.natAbs)) fun g =>
 bif Nat.ble 2 g && x.f.t.all (fun e => sameI (e.2 % (g : Int)) 0) && sameI (x.f.c % (g : Int)) 0 && sameI (p % (g : Int)) 0 && leI 1 (p / (g : Int)) then
  fNx ⟨⟨x.f.c / (g : Int), quotT (g : Int) x.f.t⟩, x.lo / (g : Int), x.hi / (g : Int)⟩ fun x => fI (p / (g : Int)) fun p => quoA S x p fun S q r => fNx ⟨r.f.mul (g : Int), (g : Int) * r.lo, (g : Int) * r.hi⟩ fun r => κ S q r
 else quoA S x p κ
theorem quoK_ok (F : Fit S l α) {x : Nx} {z p : Int} {κ : Sv → Nx → Nx → Bool} (hx : Rep S.na α x z) (hp : 0 < p) (h : quoK S x p κ = true) :
  ∃ S' α' q r, Fit S' l α' ∧ S.na ≤ S'.na ∧ (∀ i, i < S.na → α' i = α i) ∧ Rep S'.na α' q (z / p) ∧ Rep S'.na α' r (z % p) ∧ κ S' q r = true := by
 simp only [quoK, fN_eq, fNx_eq, fI_eq] at h
 generalize Nat.gcd (gcdL x.f.t) (Nat.gcd x.f.c.natAbs p.natAbs) = g at h
 cases e : Nat.ble 2 g && x.f.t.all (fun e => sameI (e.2 % (g : Int)) 0) && sameI (x.f.c % (g : Int)) 0 && sameI (p % (g : Int)) 0 && leI 1 (p / (g : Int)) with
 | false => rw [e, cond_false] at h; exact quoA_ok F hx hp h
 | true =>
  rw [e, cond_true] at h
  simp only [Bool.and_eq_true] at e
  obtain ⟨⟨⟨⟨e1, e2⟩, e3⟩, e4⟩, e5⟩ := e
  have g2 := Nat.le_of_ble_eq_true e1
  have hg : (0 : Int) < (g : Int) := by omega
  have hc := sameI_eq e3
  have hq := sameI_eq e4
  have hp1 := leI_iff.1 e5
  obtain ⟨h1, h2, h3, h4⟩ := hx
  have hs := split_ev (α := α) (p := (g : Int)) x.f.t
  rw [dv_rest e2] at hs
  have hcc := Int.mul_ediv_add_emod x.f.c (g : Int)
  have hpp := Int.mul_ediv_add_emod p (g : Int)
  have hz : z = (g : Int) * (x.f.c / (g : Int) + evl α (quotT (g : Int) x.f.t)) := by
   rw [← h2, Lf.ev, hs, Int.mul_add]
   simp only [evl]
   omega
  generalize hzz : x.f.c / (g : Int) + evl α (quotT (g : Int) x.f.t) = z' at hz
  have b1 : x.lo / (g : Int) ≤ z' := by
   have := Int.ediv_le_ediv hg h3
   rw [hz, Int.mul_ediv_cancel_left _ (by omega)] at this
   exact this
  have b2 : z' ≤ x.hi / (g : Int) := by
   have := Int.ediv_le_ediv hg h4
   rw [hz, Int.mul_ediv_cancel_left _ (by omega)] at this
   exact this
  obtain ⟨S1, α1, q, r, F1, a1, a2, a3, a4, a5⟩ := quoA_ok F (x := ⟨⟨x.f.c / (g : Int), quotT (g : Int) x.f.t⟩, x.lo / (g : Int), x.hi / (g : Int)⟩) (z := z') ⟨quotT_bd h1, hzz, b1, b2⟩ (show 0 < p / (g : Int) by omega) h
  have hp' : p = (g : Int) * (p / (g : Int)) := by omega
  refine ⟨S1, α1, q, _, F1, a1, a2, ?_, ?_, a5⟩
  ·rw [hz, hp', Int.mul_ediv_mul_of_pos _ _ hg]; exact a3
  ·rw [hz, hp', Int.mul_emod_mul_of_pos _ _ hg]
   exact ⟨Lf.bd_mul a4.1, by rw [Lf.mul_ev, a4.2.1], Int.mul_le_mul_of_nonneg_left a4.2.2.1 (by omega), Int.mul_le_mul_of_nonneg_left a4.2.2.2 (by omega)⟩
def pK : IntKind → Int
 | .i8 | .u8 => 256 | .i16 | .u16 => 65536 | .i32 | .u32 => 4294967296 | .i64 | .u64 => 18446744073709551616
theorem pK_eq (k : IntKind) : pK k = 2 ^ k.bits := by cases k <;> decide
def sgn : IntKind → Bool
 | .i8 | .i16 | .i32 | .i64 => true
 | _ => false
theorem wrap_mod {k : IntKind} (h : sgn k = false) (n : Int) : k.wrap n = n % pK k := by
 cases k <;> simp only [sgn, Bool.true_eq_false] at h <;> simp only [pK]
 ·exact wrap_u8 n
 ·exact wrap_u16 n
 ·exact wrap_u32 n
 ·exact wrap_u64 n
theorem pK_pos (k : IntKind) : 0 < pK k := by cases k <;> decide
def wrpK (S : Sv) (k : IntKind) (x : Nx) (κ : Sv → Nx → Bool) : Bool :=
 bif leI (loK k) x.lo && leI x.hi (hiK k) then κ S x else bif sgn k then atomK S (loK k) (hiK k) κ else quoK S x (pK k) fun S _ r => nK S r κ
theorem wrpK_ok (F : Fit S l α) {k : IntKind} {x : Nx} {z : Int} {κ : Sv → Nx → Bool} (hx : Rep S.na α x z) (h : wrpK S k x κ = true) : Post S l α (k.wrap z) κ := by
 simp only [wrpK] at h
 cases e : leI (loK k) x.lo && leI x.hi (hiK k) with
 | true =>
  rw [e, cond_true] at h
  rw [Bool.and_eq_true] at e
  have e1 := leI_iff.1 e.1
  have e2 := leI_iff.1 e.2
  rw [wrap_in (Int.le_trans e1 hx.2.2.1) (Int.le_trans hx.2.2.2 e2)]
  exact .here F hx h
 | false =>
  rw [e, cond_false] at h
  cases e2 : sgn k with
  | true => rw [e2, cond_true] at h; exact atomK_ok F (wrap_lo k z).1 (wrap_lo k z).2 h
  | false =>
   rw [e2, cond_false] at h
   obtain ⟨S1, α1, q, r, F1, a1, a2, _, a4, a5⟩ := quoK_ok F hx (pK_pos k) h
   rw [wrap_mod e2]
   obtain ⟨S2, α2, y, F2, b1, b2, b3, b4⟩ := nK_ok F1 a4 a5
   exact ⟨S2, α2, y, F2, Nat.le_trans a1 b1, fun i hi => by rw [b2 i (Nat.lt_of_lt_of_le hi a1), a2 i hi], b3, b4⟩
end
end Go.Am.Ck
namespace Go.Am.Ck
open Go.Am
section
variable {S : Sv} {l : List Int} {α : Nat → Int}
def opd (S : Sv) : O → Option Nx
 | .c n => some ⟨⟨n, []⟩, n, n⟩
 | .v i => match S.nm.get i with
  | some x => some (fNx (nrm S.at_ x) fun x => x)
  | none => none
 | .a i n => match S.nm.get i with
  | some x => some (fNx (nrm S.at_ x) fun x => fNx ⟨x.f.addc n, x.lo + n, x.hi + n⟩ fun x => x)
  | none => none
theorem opd_ok (F : Fit S l α) {o : O} {x : Nx} (h : opd S o = some x) : Rep S.na α x (o.val l) := by
 cases o with
 | c n => simp only [opd, Option.some.injEq] at h; subst h; exact rep_c n
 | v i =>
  simp only [opd] at h
  split at h
  ·rename_i y hy
   simp only [Option.some.injEq, fNx_eq] at h
   subst h
   exact nrm_ok F.at_ (F.nm i y hy).2
  ·cases h
 | a i n =>
  simp only [opd] at h
  split at h
  ·rename_i y hy
   simp only [Option.some.injEq, fNx_eq] at h
   subst h
   obtain ⟨a, b, c, d⟩ := nrm_ok F.at_ (F.nm i y hy).2
   exact ⟨a, by rw [Lf.addc_ev, b]; rfl, Int.add_le_add_right c n, Int.add_le_add_right d n⟩
  ·cases h
theorem rep_add {na : Nat} {x y : Nx} {m n : Int} (h : Rep na α x m) (k : Rep na α y n) : Rep na α ⟨x.f.add y.f, x.lo + y.lo, x.hi + y.hi⟩ (m + n) :=
 ⟨Lf.bd_add h.1 k.1, by rw [Lf.add_ev, h.2.1, k.2.1], Int.add_le_add h.2.2.1 k.2.2.1, Int.add_le_add h.2.2.2 k.2.2.2⟩
theorem rep_sub {na : Nat} {x y : Nx} {m n : Int} (h : Rep na α x m) (k : Rep na α y n) : Rep na α ⟨x.f.sub y.f, x.lo - y.hi, x.hi - y.lo⟩ (m - n) :=
 ⟨Lf.bd_sub h.1 k.1, by rw [Lf.sub_ev, h.2.1, k.2.1], Int.sub_le_sub h.2.2.1 k.2.2.2, Int.sub_le_sub h.2.2.2 k.2.2.1⟩
def mulN (p : Int) (x : Nx) : Nx := ⟨x.f.mul p, p * x.lo, p * x.hi⟩
theorem rep_mul {na : Nat} {x : Nx} {m p : Int} (h : Rep na α x m) (hp : 0 ≤ p) : Rep na α (mulN p x) (p * m) :=
 ⟨Lf.bd_mul h.1, by rw [mulN, Lf.mul_ev, h.2.1], Int.mul_le_mul_of_nonneg_left h.2.2.1 hp, Int.mul_le_mul_of_nonneg_left h.2.2.2 hp⟩
def conN (x : Nx) : Option Int := bif sameI x.lo x.hi then some x.lo else none
theorem conN_ok {na : Nat} {x : Nx} {m n : Int} (h : Rep na α x m) (k : conN x = some n) : m = n := by
 unfold conN at k
 cases e : sameI x.lo x.hi with
 | true =>
  rw [e] at k
  simp only [cond_true, Option.some.injEq] at k
  have := sameI_eq e
  have := h.2.2
  omega
 | false => rw [e] at k; cases k
def foldG : List Gh → Lf → Nat → Option (Int × Int)
 | [], _, _ => none
 | e :: r, f, q => bif Nat.beq e.q q && sameI e.p 65536 && leI 0 e.x.lo && leI e.x.hi 131070 && f.same (e.x.f.add ⟨0, [(q, -65536)]⟩) then some (bif leI 1 e.x.lo then 1 else 0, 65535) else foldG r f q
theorem foldG_ok {f : Lf} {q : Nat} : ∀ {g : List Gh} {x : Int × Int}, (∀ e ∈ g, GhOk S.na α e) → foldG g f q = some x → x.1 ≤ f.ev α + α q ∧ f.ev α + α q ≤ x.2
 | [], _, _, h => by cases h
 | e :: r, x, hg, h => by
  simp only [foldG] at h
  cases hc : Nat.beq e.q q && sameI e.p 65536 && leI 0 e.x.lo && leI e.x.hi 131070 && f.same (e.x.f.add ⟨0, [(q, -65536)]⟩) with
  | false => rw [hc] at h; exact foldG_ok (fun e he => hg e (List.mem_cons_of_mem _ he)) h
  | true =>
   rw [hc] at h
   simp only [cond_true, Option.some.injEq] at h
   simp only [Bool.and_eq_true] at hc
   obtain ⟨⟨⟨⟨c1, c2⟩, c3⟩, c4⟩, c5⟩ := hc
   have e1 := Nat.eq_of_beq_eq_true c1
   have e2 := sameI_eq c2
   obtain ⟨g2, g3, g4⟩ := (hg e (List.mem_cons_self ..)).2.2 (by omega)
   have e3 := leI_iff.1 c3
   have e4 := leI_iff.1 c4
   have e5 := Lf.same_ok c5
   rw [e1, e2] at g4
   have b := g2.2.2
   have hf : f.ev α = e.x.f.ev α + (-65536) * α q := by
    rw [e5, Lf.add_ev]
    simp [Lf.ev, evl]
   have hx2 : x.2 = 65535 := by rw [← h]
   have hx1 : x.1 = bif leI 1 e.x.lo then 1 else 0 := by rw [← h]
   cases e6 : leI 1 e.x.lo with
   | true => have := leI_iff.1 e6; rw [e6] at hx1; simp only [cond_true] at hx1; omega
   | false => rw [e6] at hx1; simp only [cond_false] at hx1; omega
def foldB (S : Sv) (x y : Nx) : Option (Int × Int) := match y.f.t with
 | [p] => bif sameI p.2 1 && sameI y.f.c 0 then foldG S.gh x.f p.1 else none
 | _ => none
theorem foldB_ok (F : Fit S l α) {x y : Nx} {m n : Int} (hx : Rep S.na α x m) (hy : Rep S.na α y n) {b : Int × Int} (h : foldB S x y = some b) : b.1 ≤ m + n ∧ m + n ≤ b.2 := by
 unfold foldB at h
 split at h
 ·rename_i p hp
  cases hc : sameI p.2 1 && sameI y.f.c 0 with
  | false => rw [hc] at h; cases h
  | true =>
   rw [hc] at h
   rw [Bool.and_eq_true] at hc
   have e1 := sameI_eq hc.1
   have e2 := sameI_eq hc.2
   have := foldG_ok (S := S) F.gh h
   have hn : n = α p.1 := by
    rw [← hy.2.1, Lf.ev, hp, e2]
    simp only [evl, e1]
    omega
   rw [hx.2.1] at this
   omega
 ·cases h
def addK (S : Sv) (k : IntKind) (x y : Nx) (κ : Sv → Nx → Bool) : Bool :=
 nK S (match foldB S x y with | some b => ⟨x.f.add y.f, maxI (x.lo + y.lo) b.1, minI (x.hi + y.hi) b.2⟩ | none => ⟨x.f.add y.f, x.lo + y.lo, x.hi + y.hi⟩) fun S r => wrpK S k r κ
theorem nw_ok (F : Fit S l α) {k : IntKind} {x : Nx} {v : Int} {κ : Sv → Nx → Bool} (hx : Rep S.na α x v) (h : (nK S x fun S r => wrpK S k r κ) = true) : Post S l α (k.wrap v) κ :=
 (nK_ok F hx h).then fun _ _ _ F' _ _ hr hk => wrpK_ok F' hr hk
theorem addK_ok (F : Fit S l α) {k : IntKind} {x y : Nx} {m n : Int} {κ : Sv → Nx → Bool} (hx : Rep S.na α x m) (hy : Rep S.na α y n) (h : addK S k x y κ = true) : Post S l α (k.wrap (m + n)) κ := by
 unfold addK at h
 refine nw_ok F ?_ h
 have ha := rep_add hx hy
 split
 ·rename_i b hb
  have := foldB_ok F hx hy hb
  exact ⟨ha.1, ha.2.1, maxI_ok ha.2.2.1 this.1, minI_ok ha.2.2.2 this.2⟩
 ·exact ha
def lg (p : Int) : Option Nat := match p with
 | .ofNat n => bif Nat.beq (2 ^ Nat.log2 n) n then some (Nat.log2 n) else none
 | .negSucc _ => none
theorem lg_ok {p : Int} {c : Nat} (h : lg p = some c) : (2 : Int) ^ c = p ∧ 0 < p := by
 unfold lg at h
 split at h
 ·rename_i n
  cases e : Nat.beq (2 ^ Nat.log2 n) n with
  | false => rw [e] at h; cases h
  | true =>
   rw [e, cond_true, Option.some.injEq] at h
   have e' := Nat.eq_of_beq_eq_true e
   subst h
   have hp : (2 : Int) ^ Nat.log2 n = ((2 ^ Nat.log2 n : Nat) : Int) := by simp
   have := Nat.two_pow_pos (Nat.log2 n)
   rw [hp, e']
   exact ⟨rfl, by rw [Int.ofNat_eq_natCast]; omega⟩
 ·cases h
theorem quo_q (F : Fit S l α) {x : Nx} {z p : Int} {κ : Sv → Nx → Bool} (hx : Rep S.na α x z) (hp : 0 < p) (h : (quoK S x p fun S q _ => κ S q) = true) : Post S l α (z / p) κ := by
 obtain ⟨S1, α1, q, r, F1, a1, a2, a3, _, a5⟩ := quoK_ok F hx hp h
 exact ⟨S1, α1, q, F1, a1, a2, a3, a5⟩
theorem quo_r (F : Fit S l α) {x : Nx} {z p : Int} {κ : Sv → Nx → Bool} (hx : Rep S.na α x z) (hp : 0 < p) (h : (quoK S x p fun S _ r => κ S r) = true) : Post S l α (z % p) κ := by
 obtain ⟨S1, α1, q, r, F1, a1, a2, _, a3, a5⟩ := quoK_ok F hx hp h
 exact ⟨S1, α1, r, F1, a1, a2, a3, a5⟩
theorem any_ib {op : BinOp} {k : IntKind} {x y : O} (h : (match op with | .mul | .and | .or | .xor | .andNot => true | _ => false) = true) : ∃ z, (Dd.ib op k x y).val l = some z ∧ loK k ≤ z ∧ z ≤ hiK k := by
 cases op <;> simp only [Bool.false_eq_true] at h
 all_goals exact ⟨_, rfl, wrap_lo k _⟩
def anyK (S : Sv) (k : IntKind) (κ : Sv → Nx → Bool) : Bool := atomK S (loK k) (hiK k) κ
def Done (S : Sv) (l : List Int) (α : Nat → Int) (d : Dd) (κ : Sv → Nx → Bool) : Prop := ∃ z, d.val l = some z ∧ Post S l α z κ
theorem Done.any {op : BinOp} {k : IntKind} {x y : O} {κ : Sv → Nx → Bool} (h : (match op with | .mul | .and | .or | .xor | .andNot => true | _ => false) = true) (F : Fit S l α) (hk : anyK S k κ = true) : Done S l α (.ib op k x y) κ := by
 obtain ⟨z, h1, h2, h3⟩ := any_ib (l := l) (x := x) (y := y) (k := k) h
 exact ⟨z, h1, atomK_ok F h2 h3 hk⟩
def andK (S : Sv) (k : IntKind) (x y : Nx) (κ : Sv → Nx → Bool) : Bool :=
 match conN y with
 | some m => match lg (m + 1) with
  | some c => bif Nat.ble c k.bits then quoK S x (m + 1) fun S _ r => nK S r fun S r => wrpK S k r κ else anyK S k κ
  | none => match k with
   | .u32 => match lg (4294967296 - m) with
    | some c => bif Nat.ble c 32 && leI 0 x.lo && leI x.hi 4294967295 then quoK S x (4294967296 - m) fun S q _ => nK S (mulN (4294967296 - m) q) fun S r => wrpK S .u32 r κ else anyK S k κ
    | none => anyK S k κ
   | _ => anyK S k κ
 | none => anyK S k κ
theorem andK_ok (F : Fit S l α) {k : IntKind} {a b : O} {x y : Nx} {κ : Sv → Nx → Bool} (hx : Rep S.na α x (a.val l)) (hy : Rep S.na α y (b.val l)) (h : andK S k x y κ = true) : Done S l α (.ib .and k a b) κ := by
 unfold andK at h
 split at h
 ·rename_i m hm
  have em := conN_ok hy hm
  split at h
  ·rename_i c hc
   obtain ⟨hp, hp0⟩ := lg_ok hc
   cases e : Nat.ble c k.bits with
   | false => rw [e, cond_false] at h; exact Done.any rfl F h
   | true =>
    rw [e, cond_true] at h
    refine ⟨_, v_and c (m + 1) rfl (by omega) (Nat.le_of_ble_eq_true e) hp rfl, ?_⟩
    exact (quo_r F hx hp0 h).then fun _ _ _ F' _ _ hr hk => nw_ok F' hr hk
  ·split at h
   ·split at h
    ·rename_i c hc
     obtain ⟨hp, hp0⟩ := lg_ok hc
     cases e : Nat.ble c 32 && leI 0 x.lo && leI x.hi 4294967295 with
     | false => rw [e, cond_false] at h; exact Done.any rfl F h
     | true =>
      rw [e, cond_true] at h
      simp only [Bool.and_eq_true] at e
      have e2 := leI_iff.1 e.1.2
      have e3 := leI_iff.1 e.2
      have hb := hx.2.2
      refine ⟨_, v_anh c (4294967296 - m) rfl (by omega) hp (Nat.le_of_ble_eq_true e.1.1) (by omega) (by omega) rfl, ?_⟩
      refine (quo_q F hx hp0 h).then fun _ _ _ F' _ _ hr hk => ?_
      have hr' := rep_mul hr (show 0 ≤ 4294967296 - m by omega)
      rw [Int.mul_comm] at hr'
      exact nw_ok F' hr' hk
    ·exact Done.any rfl F h
   ·exact Done.any rfl F h
 ·exact Done.any rfl F h
def bits (n : Int) : Nat := match n with
 | .ofNat 0 => 0
 | .ofNat (m + 1) => Nat.log2 (m + 1) + 1
 | .negSucc _ => 0
def dvT (p : Int) : List (Nat × Int) → Bool
 | [] => true
 | e :: r => sameI (e.2 % p) 0 && dvT p r
theorem dvT_ok {p : Int} : ∀ {t : List (Nat × Int)}, dvT p t = true → p ∣ evl α t
 | [], _ => Int.dvd_zero _
 | e :: r, h => by
  simp only [dvT, Bool.and_eq_true] at h
  exact Int.dvd_add (Int.dvd_trans (Int.dvd_of_emod_eq_zero (sameI_eq h.1)) (Int.dvd_mul_right ..)) (dvT_ok h.2)
def orK (S : Sv) (k : IntKind) (x y : Nx) (κ : Sv → Nx → Bool) : Bool :=
 fN (bits y.hi) fun c => fI ((2 ^ c : Nat) : Int) fun p =>
 bif leI 0 x.lo && leI (x.hi + 1) (pK k) && leI 0 y.lo && leI (y.hi + 1) p && Nat.ble c k.bits && sameI (x.f.c % p) 0 && dvT p x.f.t then
  nK S ⟨x.f.add y.f, x.lo + y.lo, x.hi + y.hi⟩ fun S r => wrpK S k r κ
 else bif sameI x.lo 0 && sameI x.hi 0 && leI 0 y.lo && leI (y.hi + 1) (pK k) then wrpK S k y κ
 else anyK S k κ
theorem orK_ok (F : Fit S l α) {k : IntKind} {a b : O} {x y : Nx} {κ : Sv → Nx → Bool} (hx : Rep S.na α x (a.val l)) (hy : Rep S.na α y (b.val l)) (h : orK S k x y κ = true) : Done S l α (.ib .or k a b) κ := by
 unfold orK at h
 simp only [fN_eq, fI_eq] at h
 generalize bits y.hi = c at h
 cases e : leI 0 x.lo && leI (x.hi + 1) (pK k) && leI 0 y.lo && leI (y.hi + 1) ((2 ^ c : Nat) : Int) && Nat.ble c k.bits && sameI (x.f.c % ((2 ^ c : Nat) : Int)) 0 && dvT ((2 ^ c : Nat) : Int) x.f.t with
 | true =>
  rw [e, cond_true] at h
  simp only [Bool.and_eq_true] at e
  obtain ⟨⟨⟨⟨⟨⟨e1, e2⟩, e3⟩, e4⟩, e5⟩, e6⟩, e7⟩ := e
  have a1 := leI_iff.1 e1
  have a2 := leI_iff.1 e2
  have a3 := leI_iff.1 e3
  have a4 := leI_iff.1 e4
  have a6 := sameI_eq e6
  have hd : ((2 ^ c : Nat) : Int) ∣ a.val l := by
   rw [← hx.2.1]
   exact Int.dvd_add (Int.dvd_of_emod_eq_zero a6) (dvT_ok e7)
  have hbx := hx.2.2
  have hby := hy.2.2
  rw [pK_eq] at a2
  refine ⟨_, v_or c ((2 ^ c : Nat) : Int) rfl rfl (by simp) (Nat.le_of_ble_eq_true e5) (by omega) (by omega) (Int.emod_eq_zero_of_dvd hd) (by omega) (by omega) rfl, nw_ok F (rep_add hx hy) h⟩
 | false =>
  rw [e, cond_false] at h
  cases e2 : sameI x.lo 0 && sameI x.hi 0 && leI 0 y.lo && leI (y.hi + 1) (pK k) with
  | false => rw [e2, cond_false] at h; exact Done.any rfl F h
  | true =>
   rw [e2, cond_true] at h
   simp only [Bool.and_eq_true] at e2
   obtain ⟨⟨⟨c1, c2⟩, c3⟩, c4⟩ := e2
   have a1 := sameI_eq c1
   have a2 := sameI_eq c2
   have a3 := leI_iff.1 c3
   have a4 := leI_iff.1 c4
   have hbx := hx.2.2
   have hby := hy.2.2
   rw [pK_eq] at a4
   exact ⟨_, v_or0 (by omega) rfl (by omega) (by omega) rfl, wrpK_ok F hy h⟩
def xorK (S : Sv) (x y : Nx) (κ : Sv → Nx → Bool) : Bool :=
 match conN y, x.lo, x.hi with
 | some (.ofNat B), .ofNat a, .ofNat b =>
  fN (bits (.ofNat (Nat.xor a b))) fun c => fN (2 ^ c) fun p => fN (a / p * p) fun A => fN (Nat.xor (A / p) (B / p) * p) fun Z =>
  bif Nat.ble (b + 1) (A + p) && Nat.ble A a && Nat.ble b 4294967295 && Nat.ble B 4294967295 && Nat.ble (Z + p) 4294967296 && Nat.beq (Nat.xor (A / p) (B / p)) (Z / p) && Nat.beq (A % p) 0 && Nat.beq (Z % p) 0 then
   bif Nat.beq (B % p) 0 then nK S ⟨x.f.addc ((Z : Int) - (A : Int)), x.lo + ((Z : Int) - (A : Int)), x.hi + ((Z : Int) - (A : Int))⟩ fun S r => wrpK S .u32 r κ
   else atomK S (Z : Int) ((Z : Int) + (p : Int) - 1) κ
  else anyK S .u32 κ
 | _, _, _ => anyK S .u32 κ
theorem xorK_ok (F : Fit S l α) {a b : O} {x y : Nx} {κ : Sv → Nx → Bool} (hx : Rep S.na α x (a.val l)) (hy : Rep S.na α y (b.val l)) (h : xorK S x y κ = true) : Done S l α (.ib .xor .u32 a b) κ := by
 unfold xorK at h
 split at h
 ·rename_i B a' b' hB ha hb
  have eB := conN_ok hy hB
  simp only [fN_eq] at h
  generalize bits _ = c at h
  generalize hA : a' / 2 ^ c * 2 ^ c = A at h
  generalize hZ : Nat.xor (A / 2 ^ c) (B / 2 ^ c) * 2 ^ c = Z at h
  cases e : Nat.ble (b' + 1) (A + 2 ^ c) && Nat.ble A a' && Nat.ble b' 4294967295 && Nat.ble B 4294967295 && Nat.ble (Z + 2 ^ c) 4294967296 && Nat.beq (Nat.xor (A / 2 ^ c) (B / 2 ^ c)) (Z / 2 ^ c) && Nat.beq (A % 2 ^ c) 0 && Nat.beq (Z % 2 ^ c) 0 with
  | false => rw [e, cond_false] at h; exact Done.any rfl F h
  | true =>
   rw [e, cond_true] at h
   simp only [Bool.and_eq_true] at e
   obtain ⟨⟨⟨⟨⟨⟨⟨e1, e2⟩, e3⟩, e4⟩, e5⟩, e6⟩, e7⟩, e8⟩ := e
   have a1 := Nat.le_of_ble_eq_true e1
   have a2 := Nat.le_of_ble_eq_true e2
   have a3 := Nat.le_of_ble_eq_true e3
   have a4 := Nat.le_of_ble_eq_true e4
   have a5 := Nat.le_of_ble_eq_true e5
   have a6 := Nat.eq_of_beq_eq_true e6
   have a7 := Nat.eq_of_beq_eq_true e7
   have a8 := Nat.eq_of_beq_eq_true e8
   have hbx := hx.2.2
   rw [ha, hb] at hbx
   simp only [Int.ofNat_eq_natCast] at hbx eB
   have hp : ((2 ^ c : Nat) : Int) = (2 : Int) ^ c := by simp
   have hm : (A : Int) ≤ a.val l ∧ a.val l < (A : Int) + ((2 ^ c : Nat) : Int) := by omega
   cases e9 : Nat.beq (B % 2 ^ c) 0 with
   | true =>
    rw [e9, cond_true] at h
    refine ⟨_, v_xor (k := .u32) c A B Z ((2 ^ c : Nat) : Int) rfl eB hp.symm a6 ⟨a7, Nat.eq_of_beq_eq_true e9, a8⟩ hm (by show _ < (2 : Int) ^ 32; omega) (by show B < 2 ^ 32; omega) rfl, nw_ok F ?_ h⟩
    have e' : (Z : Int) + (a.val l - (A : Int)) = a.val l + ((Z : Int) - (A : Int)) := by omega
    rw [e']
    exact ⟨hx.1, by rw [Lf.addc_ev, hx.2.1], Int.add_le_add_right hx.2.2.1 _, Int.add_le_add_right hx.2.2.2 _⟩
   | false =>
    rw [e9, cond_false] at h
    obtain ⟨z, z1, z2, z3⟩ := v_xorx (l := l) c A B Z ((2 ^ c : Nat) : Int) rfl eB hp.symm a6 ⟨a7, a8, by omega⟩ hm (by omega) (by omega)
    exact ⟨z, z1, atomK_ok F z2 (by omega) h⟩
 ·exact Done.any rfl F h
def comp (S : Sv) (d : Dd) (κ : Sv → Nx → Bool) : Bool := match d with
 | .ib op k a b => match opd S a, opd S b with
  | some x, some y => match op with
   | .add => addK S k x y κ
   | .sub => nK S ⟨x.f.sub y.f, x.lo - y.hi, x.hi - y.lo⟩ fun S r => wrpK S k r κ
   | .mul => match conN y with
    | some p => bif leI 0 p then nK S (mulN p x) fun S r => wrpK S k r κ else anyK S k κ
    | none => anyK S k κ
   | .and => andK S k x y κ
   | .or => orK S k x y κ
   | .xor => match k with
    | .u32 => xorK S x y κ
    | k => anyK S k κ
   | .andNot => match k with
    | .u32 => match conN y with
     | some m => match lg (m + 1) with
      | some c => bif Nat.ble c 32 && leI 0 x.lo && leI x.hi 4294967295 then quoK S x (m + 1) fun S q _ => nK S (mulN (m + 1) q) fun S r => wrpK S .u32 r κ else anyK S k κ
      | none => anyK S k κ
     | none => anyK S k κ
    | k => anyK S k κ
   | .quo => match conN y with
    | some p => bif leI 1 p && leI 0 x.lo then quoK S x p fun S q _ => nK S q fun S r => wrpK S k r κ else false
    | none => false
   | .rem => match conN y with
    | some p => bif leI 1 p && leI 0 x.lo then quoK S x p fun S _ r => nK S r κ else false
    | none => false
   | _ => false
  | _, _ => false
 | .sh op k a b => match opd S a, opd S b with
  | some x, some y => match conN y with
   | some (.ofNat c) => bif Nat.ble c k.bits then fI ((2 ^ c : Nat) : Int) fun p => match op with
     | .shl => nK S (mulN p x) fun S r => wrpK S k r κ
     | .shr => quoK S x p fun S q _ => nK S q κ
     | _ => false
    else false
   | _ => false
  | _, _ => false
 | .un op k a => match op, opd S a with
  | .neg, some x => nK S ⟨x.f.mul (-1), 0 - x.hi, 0 - x.lo⟩ fun S r => wrpK S k r κ
  | _, _ => false
 | .wr k a => match opd S a with
  | some x => nK S x fun S r => wrpK S k r κ
  | none => false
 | .by_ a => match opd S a with
  | some x => bif leI 0 x.lo then quoK S x 256 fun S _ r => nK S r κ else false
  | none => false
theorem comp_ok (F : Fit S l α) {d : Dd} {κ : Sv → Nx → Bool} (h : comp S d κ = true) : Done S l α d κ := by
 unfold comp at h
 split at h
 ·rename_i op k a b
  split at h
  ·rename_i x y hx hy
   have rx := opd_ok F hx
   have ry := opd_ok F hy
   split at h
   ·exact ⟨_, v_add rfl rfl rfl, addK_ok F rx ry h⟩
   ·exact ⟨_, v_sub rfl rfl rfl, nw_ok F (rep_sub rx ry) h⟩
   ·split at h
    ·rename_i p hp
     have ep := conN_ok ry hp
     cases e : leI 0 p with
     | false => rw [e, cond_false] at h; exact Done.any rfl F h
     | true =>
      rw [e, cond_true] at h
      refine ⟨_, v_mul rfl rfl rfl, nw_ok F ?_ h⟩
      rw [ep, Int.mul_comm]
      exact rep_mul rx (leI_iff.1 e)
    ·exact Done.any rfl F h
   ·exact andK_ok F rx ry h
   ·exact orK_ok F rx ry h
   ·split at h
    ·exact xorK_ok F rx ry h
    ·exact Done.any rfl F h
   ·split at h
    ·split at h
     ·rename_i m hm
      have em := conN_ok ry hm
      split at h
      ·rename_i c hc
       obtain ⟨hp, hp0⟩ := lg_ok hc
       cases e : Nat.ble c 32 && leI 0 x.lo && leI x.hi 4294967295 with
       | false => rw [e, cond_false] at h; exact Done.any rfl F h
       | true =>
        rw [e, cond_true] at h
        simp only [Bool.and_eq_true] at e
        have e2 := leI_iff.1 e.1.2
        have e3 := leI_iff.1 e.2
        have hb := rx.2.2
        refine ⟨_, v_anm c (m + 1) rfl (by omega) hp (Nat.le_of_ble_eq_true e.1.1) (by omega) (by omega) rfl, ?_⟩
        refine (quo_q F rx hp0 h).then fun _ _ _ F' _ _ hr hk => ?_
        have hr' := rep_mul hr (show 0 ≤ m + 1 by omega)
        rw [Int.mul_comm] at hr'
        exact nw_ok F' hr' hk
      ·exact Done.any rfl F h
     ·exact Done.any rfl F h
    ·exact Done.any rfl F h
   ·split at h
    ·rename_i p hp
     have ep := conN_ok ry hp
     cases e : leI 1 p && leI 0 x.lo with
     | false => rw [e] at h; cases h
     | true =>
      rw [e, cond_true] at h
      rw [Bool.and_eq_true] at e
      have e1 := leI_iff.1 e.1
      have e2 := leI_iff.1 e.2
      have hb := rx.2.2
      refine ⟨_, v_quo rfl ep (by omega) (by omega) rfl, ?_⟩
      exact (quo_q F rx (by omega) h).then fun _ _ _ F' _ _ hr hk => nw_ok F' hr hk
    ·cases h
   ·split at h
    ·rename_i p hp
     have ep := conN_ok ry hp
     cases e : leI 1 p && leI 0 x.lo with
     | false => rw [e] at h; cases h
     | true =>
      rw [e, cond_true] at h
      rw [Bool.and_eq_true] at e
      have e1 := leI_iff.1 e.1
      have e2 := leI_iff.1 e.2
      have hb := rx.2.2
      refine ⟨_, v_rem rfl ep (by omega) (by omega) rfl, ?_⟩
      exact (quo_r F rx (by omega) h).then fun _ _ _ F' _ _ hr hk => nK_ok F' hr hk
    ·cases h
   ·cases h
  ·cases h
 ·rename_i op k a b
  split at h
  ·rename_i x y hx hy
   have rx := opd_ok F hx
   have ry := opd_ok F hy
   split at h
   ·rename_i c hc
    have ec := conN_ok ry hc
    simp only [Int.ofNat_eq_natCast] at ec
    cases e : Nat.ble c k.bits with
    | false => rw [e] at h; cases h
    | true =>
     rw [e, cond_true, fI_eq] at h
     have hb := Nat.le_of_ble_eq_true e
     have hp : (2 : Int) ^ c = ((2 ^ c : Nat) : Int) := by simp
     have hp0 : (0 : Int) < ((2 ^ c : Nat) : Int) := by have := Nat.two_pow_pos c; omega
     split at h
     ·refine ⟨_, v_shl c _ rfl ec hb hp rfl, nw_ok F ?_ h⟩
      rw [Int.mul_comm]
      exact rep_mul rx (by omega)
     ·refine ⟨_, v_shr c _ rfl ec hb hp rfl, ?_⟩
      exact (quo_q F rx hp0 h).then fun _ _ _ F' _ _ hr hk => nK_ok F' hr hk
     ·cases h
   ·cases h
  ·cases h
 ·split at h
  ·rename_i x hx
   have rx := opd_ok F hx
   refine ⟨_, v_neg rfl rfl, nw_ok F ?_ h⟩
   refine ⟨Lf.bd_mul rx.1, by rw [Lf.mul_ev, rx.2.1]; omega, Int.sub_le_sub_left rx.2.2.2 0, Int.sub_le_sub_left rx.2.2.1 0⟩
  ·cases h
 ·split at h
  ·rename_i x hx
   exact ⟨_, v_wr rfl rfl, nw_ok F (opd_ok F hx) h⟩
  ·cases h
 ·split at h
  ·rename_i x hx
   have rx := opd_ok F hx
   cases e : leI 0 x.lo with
   | false => rw [e] at h; cases h
   | true =>
    rw [e, cond_true] at h
    have := leI_iff.1 e
    have hb := rx.2.2
    refine ⟨_, v_by rfl (by omega) rfl, ?_⟩
    exact (quo_r F rx (by decide) h).then fun _ _ _ F' _ _ hr hk => nK_ok F' hr hk
  ·cases h
end
end Go.Am.Ck
namespace Go.Am.Ck
open Go.Am
section
variable {S : Sv} {l : List Int} {α : Nat → Int}
def dif (S : Sv) (x y : Nx) : Nx := fNx ⟨x.f.sub y.f, x.lo - y.hi, x.hi - y.lo⟩ fun z => fNx (nrm S.at_ z) fun z => z
theorem dif_ok (F : Fit S l α) {x y : Nx} {m n : Int} (hx : Rep S.na α x m) (hy : Rep S.na α y n) : Rep S.na α (dif S x y) (m - n) := by
 simp only [dif, fNx_eq]
 exact nrm_ok F.at_ (rep_sub hx hy)
def opdR (S : Sv) : O → Option Nx
 | .c n => some ⟨⟨n, []⟩, n, n⟩
 | .v i => S.nm.get i
 | .a i n => match S.nm.get i with
  | some x => some ⟨x.f.addc n, x.lo + n, x.hi + n⟩
  | none => none
theorem opdR_ok (F : Fit S l α) {o : O} {x : Nx} (h : opdR S o = some x) : Rep S.na α x (o.val l) := by
 cases o with
 | c n => simp only [opdR, Option.some.injEq] at h; subst h; exact rep_c n
 | v i => exact (F.nm i x h).2
 | a i n =>
  simp only [opdR] at h
  split at h
  ·rename_i y hy
   simp only [Option.some.injEq] at h
   subst h
   obtain ⟨a, b, c, d⟩ := (F.nm i y hy).2
   exact ⟨a, by rw [Lf.addc_ev, b]; rfl, Int.add_le_add_right c n, Int.add_le_add_right d n⟩
  ·cases h
def isN (S : Sv) (x : Nx) (o : O) : Bool :=
 (match opd S o with
  | some y => fNx (dif S x y) fun r => sameI r.lo 0 && sameI r.hi 0
  | none => false) ||
 (match opdR S o with
  | some y => fNx (dif S x y) fun r => sameI r.lo 0 && sameI r.hi 0
  | none => false)
def decQ (S : Sv) (q : Qq) : Option Bool := match q with
 | .le a b => match opd S a, opd S b with
  | some x, some y => fNx (dif S x y) fun r => bif leI r.hi 0 then some true else bif leI 1 r.lo then some false else none
  | _, _ => none
 | .lt a b => match opd S a, opd S b with
  | some x, some y => fNx (dif S x y) fun r => bif leI r.hi (-1) then some true else bif leI 0 r.lo then some false else none
  | _, _ => none
 | .eq a b => match opd S a, opd S b with
  | some x, some y => fNx (dif S x y) fun r => bif sameI r.lo 0 && sameI r.hi 0 then some true else bif leI 1 r.lo || leI r.hi (-1) || !sameI (r.f.c % ((gcdL r.f.t : Nat) : Int)) 0 then some false else none
  | _, _ => none
theorem sameI_f {m n : Int} (h : sameI m n = false) : m ≠ n := by
 intro e
 subst e
 have : sameI m m = true := by
  cases m <;> simp only [sameI] <;> exact Nat.beq_refl _
 rw [this] at h
 cases h
theorem decQ_ok (F : Fit S l α) {q : Qq} {b : Bool} (h : decQ S q = some b) : q.holds l ↔ b = true := by
 unfold decQ at h
 split at h
 ·split at h
  ·rename_i x y hx hy
   have hr := dif_ok F (opd_ok F hx) (opd_ok F hy)
   rw [fNx_eq] at h
   generalize dif S x y = r at h hr
   have hb := hr.2.2
   simp only [Qq.holds]
   cases e1 : leI r.hi 0 with
   | true =>
    rw [e1, cond_true, Option.some.injEq] at h
    have := leI_iff.1 e1
    subst h
    exact ⟨fun _ => rfl, fun _ => by omega⟩
   | false =>
    rw [e1, cond_false] at h
    cases e2 : leI 1 r.lo with
    | true =>
     rw [e2, cond_true, Option.some.injEq] at h
     have := leI_iff.1 e2
     subst h
     exact ⟨fun h' => absurd h' (by omega), fun h' => by cases h'⟩
    | false => rw [e2] at h; cases h
  ·cases h
 ·split at h
  ·rename_i x y hx hy
   have hr := dif_ok F (opd_ok F hx) (opd_ok F hy)
   rw [fNx_eq] at h
   generalize dif S x y = r at h hr
   have hb := hr.2.2
   simp only [Qq.holds]
   cases e1 : leI r.hi (-1) with
   | true =>
    rw [e1, cond_true, Option.some.injEq] at h
    have := leI_iff.1 e1
    subst h
    exact ⟨fun _ => rfl, fun _ => by omega⟩
   | false =>
    rw [e1, cond_false] at h
    cases e2 : leI 0 r.lo with
    | true =>
     rw [e2, cond_true, Option.some.injEq] at h
     have := leI_iff.1 e2
     subst h
     exact ⟨fun h' => absurd h' (by omega), fun h' => by cases h'⟩
    | false => rw [e2] at h; cases h
  ·cases h
 ·split at h
  ·rename_i x y hx hy
   have hr := dif_ok F (opd_ok F hx) (opd_ok F hy)
   rw [fNx_eq] at h
   generalize dif S x y = r at h hr
   have hb := hr.2.2
   simp only [Qq.holds]
   cases e1 : sameI r.lo 0 && sameI r.hi 0 with
   | true =>
    rw [e1, cond_true, Option.some.injEq] at h
    rw [Bool.and_eq_true] at e1
    have a1 := sameI_eq e1.1
    have a2 := sameI_eq e1.2
    subst h
    exact ⟨fun _ => rfl, fun _ => by omega⟩
   | false =>
    rw [e1, cond_false] at h
    cases e2 : leI 1 r.lo || leI r.hi (-1) || !sameI (r.f.c % ((gcdL r.f.t : Nat) : Int)) 0 with
    | false => rw [e2] at h; cases h
    | true =>
     rw [e2, cond_true, Option.some.injEq] at h
     subst h
     refine ⟨fun h' => ?_, fun h' => by cases h'⟩
     rw [Bool.or_eq_true, Bool.or_eq_true] at e2
     rcases e2 with (e2 | e2) | e2
     ·have := leI_iff.1 e2; omega
     ·have := leI_iff.1 e2; omega
     ·have hne : r.f.c % ((gcdL r.f.t : Nat) : Int) ≠ 0 := by
       cases hs : sameI (r.f.c % ((gcdL r.f.t : Nat) : Int)) 0 with
       | true => rw [hs] at e2; cases e2
       | false => exact sameI_f hs
      have hd := gcdL_dvd α r.f.t
      have he : r.f.c + evl α r.f.t = 0 := by
       have := hr.2.1
       rw [Lf.ev] at this
       omega
      refine absurd (Int.emod_eq_zero_of_dvd ?_) hne
      rw [show r.f.c = -evl α r.f.t by omega]
      exact Int.dvd_neg.2 hd
  ·cases h
def zeros : List Gh → List Lf
 | [] => []
 | e :: r => bif sameI e.p 0 then e.x.f :: zeros r else zeros r
theorem zeros_ok {g : List Gh} (hg : ∀ e ∈ g, GhOk S.na α e) : ∀ z ∈ zeros g, z.bd S.na ∧ z.ev α = 0 := by
 induction g with
 | nil => exact fun z hz => absurd hz List.not_mem_nil
 | cons e r ih =>
  intro z hz
  simp only [zeros] at hz
  cases h : sameI e.p 0 with
  | true =>
   rw [h, cond_true] at hz
   rcases List.mem_cons.1 hz with rfl | hz
   ·exact (hg e (List.mem_cons_self ..)).1 (sameI_eq h)
   ·exact ih (fun e he => hg e (List.mem_cons_of_mem _ he)) z hz
  | false =>
   rw [h, cond_false] at hz
   exact ih (fun e he => hg e (List.mem_cons_of_mem _ he)) z hz
def eqD (r : Nx) : Option Bool := bif sameI r.lo 0 && sameI r.hi 0 then some true else bif leI 1 r.lo || leI r.hi (-1) || !sameI (r.f.c % ((gcdL r.f.t : Nat) : Int)) 0 then some false else none
theorem eqD_ok {na : Nat} {r : Nx} {z : Int} (hr : Rep na α r z) {b : Bool} (h : eqD r = some b) : z = 0 ↔ b = true := by
 unfold eqD at h
 have hb := hr.2.2
 cases e1 : sameI r.lo 0 && sameI r.hi 0 with
 | true =>
  rw [e1, cond_true, Option.some.injEq] at h
  rw [Bool.and_eq_true] at e1
  have a1 := sameI_eq e1.1
  have a2 := sameI_eq e1.2
  subst h
  exact ⟨fun _ => rfl, fun _ => by omega⟩
 | false =>
  rw [e1, cond_false] at h
  cases e2 : leI 1 r.lo || leI r.hi (-1) || !sameI (r.f.c % ((gcdL r.f.t : Nat) : Int)) 0 with
  | false => rw [e2] at h; cases h
  | true =>
   rw [e2, cond_true, Option.some.injEq] at h
   subst h
   refine ⟨fun h' => ?_, fun h' => by cases h'⟩
   rw [Bool.or_eq_true, Bool.or_eq_true] at e2
   rcases e2 with (e2 | e2) | e2
   ·have := leI_iff.1 e2; omega
   ·have := leI_iff.1 e2; omega
   ·have hne : r.f.c % ((gcdL r.f.t : Nat) : Int) ≠ 0 := by
     cases hs : sameI (r.f.c % ((gcdL r.f.t : Nat) : Int)) 0 with
     | true => rw [hs] at e2; cases e2
     | false => exact sameI_f hs
    have hd := gcdL_dvd α r.f.t
    have he : r.f.c + evl α r.f.t = 0 := by
     have := hr.2.1
     rw [Lf.ev] at this
     omega
    refine absurd (Int.emod_eq_zero_of_dvd ?_) hne
    rw [show r.f.c = -evl α r.f.t by omega]
    exact Int.dvd_neg.2 hd
def tryZ (S : Sv) (r : Nx) : List Lf → Option Bool
 | [] => none
 | z :: l => match fNx ⟨r.f.sub z, r.lo, r.hi⟩ (fun x => fNx (nrm S.at_ x) eqD) with
  | some b => some b
  | none => match fNx ⟨r.f.add z, r.lo, r.hi⟩ (fun x => fNx (nrm S.at_ x) eqD) with
   | some b => some b
   | none => tryZ S r l
theorem tryZ_ok (F : Fit S l α) {r : Nx} {v : Int} (hr : Rep S.na α r v) : ∀ {L : List Lf} {b : Bool}, (∀ z ∈ L, z.bd S.na ∧ z.ev α = 0) → tryZ S r L = some b → (v = 0 ↔ b = true)
 | [], _, _, h => by cases h
 | z :: L, b, hz, h => by
  obtain ⟨z1, z2⟩ := hz z (List.mem_cons_self ..)
  have hs : Rep S.na α ⟨r.f.sub z, r.lo, r.hi⟩ v := ⟨Lf.bd_sub hr.1 z1, by rw [Lf.sub_ev, z2, hr.2.1]; omega, hr.2.2⟩
  have ha : Rep S.na α ⟨r.f.add z, r.lo, r.hi⟩ v := ⟨Lf.bd_add hr.1 z1, by rw [Lf.add_ev, z2, hr.2.1]; omega, hr.2.2⟩
  simp only [tryZ, fNx_eq] at h
  split at h
  ·rename_i b' hb
   simp only [Option.some.injEq] at h
   subst h
   exact eqD_ok (nrm_ok F.at_ hs) hb
  ·split at h
   ·rename_i b' hb
    simp only [Option.some.injEq] at h
    subst h
    exact eqD_ok (nrm_ok F.at_ ha) hb
   ·exact tryZ_ok F hr (fun z hz' => hz z (List.mem_cons_of_mem _ hz')) h
def nonz : List Gh → Lf → Bool
 | [], _ => false
 | e :: r, f => (sameI e.p (-1) && (e.x.f.same f || e.x.f.same (f.mul (-1)))) || nonz r f
theorem nonz_ok {g : List Gh} (hg : ∀ e ∈ g, GhOk S.na α e) {f : Lf} (h : nonz g f = true) : f.ev α ≠ 0 := by
 induction g with
 | nil => cases h
 | cons e r ih =>
  simp only [nonz] at h
  rw [Bool.or_eq_true, Bool.and_eq_true, Bool.or_eq_true] at h
  rcases h with ⟨h1, h2⟩ | h
  ·have hz := ((hg e (List.mem_cons_self ..)).2.1 (sameI_eq h1)).2
   rcases h2 with h2 | h2
   ·rw [← Lf.same_ok h2]; exact hz
   ·rw [Lf.same_ok h2, Lf.mul_ev] at hz
    intro h0
    rw [h0] at hz
    exact hz (by simp)
  ·exact ih (fun e he => hg e (List.mem_cons_of_mem _ he)) h
def decZ (S : Sv) (q : Qq) : Option Bool := match decQ S q with
 | some b => some b
 | none => match q with
  | .eq a b => match opd S a, opd S b with
   | some x, some y => bif nonz S.gh (dif S x y).f then some false else tryZ S (dif S x y) (zeros S.gh)
   | _, _ => none
  | _ => none
theorem decZ_ok (F : Fit S l α) {q : Qq} {b : Bool} (h : decZ S q = some b) : q.holds l ↔ b = true := by
 unfold decZ at h
 split at h
 ·rename_i b' hb
  simp only [Option.some.injEq] at h
  subst h
  exact decQ_ok F hb
 ·split at h
  ·split at h
   ·rename_i x y hx hy
    have hd := dif_ok F (opd_ok F hx) (opd_ok F hy)
    simp only [Qq.holds]
    cases e : nonz S.gh (dif S x y).f with
    | true =>
     rw [e, cond_true, Option.some.injEq] at h
     subst h
     have := nonz_ok F.gh e
     rw [hd.2.1] at this
     exact ⟨fun h' => absurd h' (by omega), fun h' => by cases h'⟩
    | false =>
     rw [e, cond_false] at h
     have := tryZ_ok F hd (zeros_ok F.gh) h
     rw [← this]
     omega
   ·cases h
  ·cases h
def zeroK (p : Int) (S : Sv) (x y : O) (κ : Sv → Bool) : Bool := match opdR S x, opdR S y with
 | some u, some w => fLf (u.f.sub w.f) fun f => match f.t with
  | [] => κ S
  | _ => tkK 63 S.gh fun g => κ ⟨S.n, S.na, S.nm, S.at_, ⟨⟨f, 0, 0⟩, p, 0⟩ :: g⟩
 | _, _ => κ S
theorem zeroK_ok (F : Fit S l α) {p : Int} {x y : O} (hh : (p = 0 ∧ x.val l = y.val l) ∨ (p = -1 ∧ x.val l ≠ y.val l)) {κ : Sv → Bool} (h : zeroK p S x y κ = true) : ∃ S', Fit S' l α ∧ κ S' = true := by
 unfold zeroK at h
 split at h
 ·rename_i u w hu hw
  have ru := opdR_ok F hu
  have rw' := opdR_ok F hw
  rw [fLf_eq] at h
  split at h
  ·exact ⟨S, F, h⟩
  ·rw [tkK_eq] at h
   refine ⟨⟨S.n, S.na, S.nm, S.at_, ⟨⟨u.f.sub w.f, 0, 0⟩, p, 0⟩ :: S.gh.take 63⟩, ⟨F.n, F.nm, F.at_, fun e he => ?_⟩, h⟩
   rcases List.mem_cons.1 he with rfl | he
   ·refine ⟨fun h0 => ⟨Lf.bd_sub ru.1 rw'.1, ?_⟩, fun h0 => ⟨Lf.bd_sub ru.1 rw'.1, ?_⟩, fun h0 => ?_⟩
    ·have h0' : p = 0 := h0
     rw [Lf.sub_ev, ru.2.1, rw'.2.1]; omega
    ·have h0' : p = -1 := h0
     rw [Lf.sub_ev, ru.2.1, rw'.2.1]; omega
    ·have h0' : 0 < p := h0
     omega
   ·exact F.gh e (List.mem_of_mem_take he)
 ·exact ⟨S, F, h⟩
def pushK (S : Sv) (x : Nx) (κ : Sv → Bool) : Bool := T.seq (S.nm.put S.n (some x)) fun nm => fN (S.n + 1) fun n => κ ⟨n, S.na, nm, S.at_, S.gh⟩
theorem push_ok (F : Fit S l α) {x : Nx} {z : Int} (hx : Rep S.na α x z) {κ : Sv → Bool} (h : pushK S x κ = true) : ∃ S', Fit S' (l ++ [z]) α ∧ κ S' = true := by
 simp only [pushK, T.seq_eq, fN_eq] at h
 refine ⟨⟨S.n + 1, S.na, S.nm.put S.n (some x), S.at_, S.gh⟩, ⟨by rw [List.length_append, F.n]; rfl, fun i y hy => ?_, F.at_, F.gh⟩, h⟩
 rw [T.get_put] at hy
 have hl := F.n
 by_cases e : S.n = i
 ·subst e
  rw [if_pos rfl, Option.some.injEq] at hy
  subst hy
  refine ⟨Nat.lt_succ_self _, ?_⟩
  rw [List.getD_eq_getElem?_getD, List.getElem?_append_right (by omega), show S.n - l.length = 0 by omega]
  exact hx
 ·rw [if_neg e] at hy
  obtain ⟨a, b⟩ := F.nm i y hy
  refine ⟨Nat.lt_succ_of_lt a, ?_⟩
  rw [List.getD_eq_getElem?_getD, List.getElem?_append_left (by omega), ← List.getD_eq_getElem?_getD]
  exact b
def loO (x : Int) : Option Int → Int
 | some z => maxI x z
 | none => x
def hiO (x : Int) : Option Int → Int
 | some z => minI x z
 | none => x
theorem loO_ok {x v : Int} {o : Option Int} (h : x ≤ v) (k : ∀ z, o = some z → z ≤ v) : loO x o ≤ v := by
 cases o with
 | none => exact h
 | some z => exact maxI_ok h (k z rfl)
theorem hiO_ok {x v : Int} {o : Option Int} (h : v ≤ x) (k : ∀ z, o = some z → v ≤ z) : v ≤ hiO x o := by
 cases o with
 | none => exact h
 | some z => exact minI_ok h (k z rfl)
def setK (S : Sv) (i : Nat) (lo hi : Option Int) (κ : Sv → Bool) : Bool := match S.nm.get i with
 | none => κ S
 | some x => fI (loO x.lo lo) fun a => fI (hiO x.hi hi) fun b =>
  T.seq (S.nm.put i (some ⟨x.f, a, b⟩)) fun nm => match x.f.t with
   | [p] => bif sameI p.2 1 then (match S.at_.get p.1 with
     | some y => fI (maxI y.1 (a - x.f.c)) fun a' => fI (minI y.2 (b - x.f.c)) fun b' => T.seq (S.at_.put p.1 (some (a', b'))) fun m => κ ⟨S.n, S.na, nm, m, S.gh⟩
     | none => κ ⟨S.n, S.na, nm, S.at_, S.gh⟩) else κ ⟨S.n, S.na, nm, S.at_, S.gh⟩
   | _ => κ ⟨S.n, S.na, nm, S.at_, S.gh⟩
theorem setK_ok (F : Fit S l α) {i : Nat} {lo hi : Option Int} (h1 : ∀ z, lo = some z → z ≤ l.getD i 0) (h2 : ∀ z, hi = some z → l.getD i 0 ≤ z) {κ : Sv → Bool} (h : setK S i lo hi κ = true) : ∃ S', Fit S' l α ∧ κ S' = true := by
 unfold setK at h
 split at h
 ·exact ⟨S, F, h⟩
 ·rename_i x hx
  obtain ⟨hi', hr⟩ := F.nm i x hx
  simp only [fI_eq, T.seq_eq] at h
  have ha : loO x.lo lo ≤ l.getD i 0 := loO_ok hr.2.2.1 h1
  have hb : l.getD i 0 ≤ hiO x.hi hi := hiO_ok hr.2.2.2 h2
  generalize loO x.lo lo = a at h ha
  generalize hiO x.hi hi = b at h hb
  have hn : ∀ j y, (S.nm.put i (some ⟨x.f, a, b⟩)).get j = some y → j < S.n ∧ Rep S.na α y (l.getD j 0) := fun j y hy => by
   rw [T.get_put] at hy
   by_cases e : i = j
   ·subst e
    rw [if_pos rfl, Option.some.injEq] at hy
    subst hy
    exact ⟨hi', hr.1, hr.2.1, ha, hb⟩
   ·rw [if_neg e] at hy
    exact F.nm j y hy
  split at h
  ·rename_i p hp
   cases e : sameI p.2 1 with
   | false => rw [e, cond_false] at h; exact ⟨⟨S.n, S.na, S.nm.put i (some ⟨x.f, a, b⟩), S.at_, S.gh⟩, ⟨F.n, hn, F.at_, F.gh⟩, h⟩
   | true =>
    rw [e, cond_true] at h
    split at h
    ·rename_i y hy
     refine ⟨⟨S.n, S.na, S.nm.put i (some ⟨x.f, a, b⟩), S.at_.put p.1 (some (maxI y.1 (a - x.f.c), minI y.2 (b - x.f.c))), S.gh⟩, ⟨F.n, hn, fun j w hw => ?_, F.gh⟩, h⟩
     rw [T.get_put] at hw
     by_cases e' : p.1 = j
     ·subst e'
      rw [if_pos rfl, Option.some.injEq] at hw
      subst hw
      have hj := F.at_ _ _ hy
      have hv := hr.2.1
      rw [Lf.ev, hp] at hv
      simp only [evl, sameI_eq e] at hv
      exact ⟨maxI_ok hj.1 (by omega), minI_ok hj.2 (by omega)⟩
     ·rw [if_neg e'] at hw
      exact F.at_ j w hw
    ·exact ⟨⟨S.n, S.na, S.nm.put i (some ⟨x.f, a, b⟩), S.at_, S.gh⟩, ⟨F.n, hn, F.at_, F.gh⟩, h⟩
  ·exact ⟨⟨S.n, S.na, S.nm.put i (some ⟨x.f, a, b⟩), S.at_, S.gh⟩, ⟨F.n, hn, F.at_, F.gh⟩, h⟩
def upHi (S : Sv) (o : O) (z : Int) (κ : Sv → Bool) : Bool := match o.base with
 | some (i, m) => setK S i none (some (z - m)) κ
 | none => κ S
def upLo (S : Sv) (o : O) (z : Int) (κ : Sv → Bool) : Bool := match o.base with
 | some (i, m) => setK S i (some (z - m)) none κ
 | none => κ S
theorem upHi_ok (F : Fit S l α) {o : O} {z : Int} (hz : o.val l ≤ z) {κ : Sv → Bool} (h : upHi S o z κ = true) : ∃ S', Fit S' l α ∧ κ S' = true := by
 unfold upHi at h
 split at h
 ·rename_i i m hx
  rw [O.base_ok hx] at hz
  exact setK_ok F (fun z hz => by cases hz) (fun w hw => by simp only [Option.some.injEq] at hw; omega) h
 ·exact ⟨S, F, h⟩
theorem upLo_ok (F : Fit S l α) {o : O} {z : Int} (hz : z ≤ o.val l) {κ : Sv → Bool} (h : upLo S o z κ = true) : ∃ S', Fit S' l α ∧ κ S' = true := by
 unfold upLo at h
 split at h
 ·rename_i i m hx
  rw [O.base_ok hx] at hz
  exact setK_ok F (fun w hw => by simp only [Option.some.injEq] at hw; omega) (fun z hz => by cases hz) h
 ·exact ⟨S, F, h⟩
def leK (S : Sv) (x y : O) (k : Int) (κ : Sv → Bool) : Bool := match opd S x, opd S y with
 | some u, some w => upHi S x (w.hi + k) fun S => upLo S y (u.lo - k) κ
 | _, _ => κ S
theorem leK_ok (F : Fit S l α) {x y : O} {k : Int} (hh : x.val l ≤ y.val l + k) {κ : Sv → Bool} (h : leK S x y k κ = true) : ∃ S', Fit S' l α ∧ κ S' = true := by
 unfold leK at h
 split at h
 ·rename_i u w hu hw
  have b1 := (opd_ok F hu).2.2
  have b2 := (opd_ok F hw).2.2
  obtain ⟨S1, F1, h1⟩ := upHi_ok F (by omega) h
  exact upLo_ok F1 (by omega) h1
 ·exact ⟨S, F, h⟩
def neK (S : Sv) (x y : O) (κ : Sv → Bool) : Bool := match opd S x, opd S y, x.base with
  | some u, some w, some (i, m) => (match conN w with
   | some n => bif sameI u.lo n then setK S i (some (n + 1 - m)) none κ else bif sameI u.hi n then setK S i none (some (n - 1 - m)) κ else κ S
   | none => κ S)
  | _, _, _ => κ S
theorem neK_ok (F : Fit S l α) {x y : O} (hne : ¬ x.val l = y.val l) {κ : Sv → Bool} (h : neK S x y κ = true) : ∃ S', Fit S' l α ∧ κ S' = true := by
  unfold neK at h
  split at h
  ·rename_i u w i m hu hw hb
   split at h
   ·rename_i n hn
    have en := conN_ok (opd_ok F hw) hn
    have ru := (opd_ok F hu).2.2
    have eb := O.base_ok (l := l) hb
    cases e1 : sameI u.lo n with
    | true =>
     rw [e1, cond_true] at h
     have := sameI_eq e1
     exact setK_ok F (fun z hz => by simp only [Option.some.injEq] at hz; omega) (fun z hz => by cases hz) h
    | false =>
     rw [e1, cond_false] at h
     cases e2 : sameI u.hi n with
     | true =>
      rw [e2, cond_true] at h
      have := sameI_eq e2
      exact setK_ok F (fun z hz => by cases hz) (fun z hz => by simp only [Option.some.injEq] at hz; omega) h
     | false => rw [e2, cond_false] at h; exact ⟨S, F, h⟩
   ·exact ⟨S, F, h⟩
  ·exact ⟨S, F, h⟩
def learnK (S : Sv) (q : Qq) (b : Bool) (κ : Sv → Bool) : Bool := match q, b with
 | .lt x y, true => leK S x y (-1) κ
 | .lt x y, false => leK S y x 0 κ
 | .le x y, true => leK S x y 0 κ
 | .le x y, false => leK S y x (-1) κ
 | .eq x y, true => zeroK 0 S x y fun S => leK S x y 0 fun S => leK S y x 0 κ
 | .eq x y, false => zeroK (-1) S x y fun S => neK S x y κ
theorem learnK_ok (F : Fit S l α) {q : Qq} {b : Bool} (hh : q.holds l ↔ b = true) {κ : Sv → Bool} (h : learnK S q b κ = true) : ∃ S', Fit S' l α ∧ κ S' = true := by
 unfold learnK at h
 split at h
 ·rename_i x y
  have : x.val l < y.val l := hh.2 rfl
  exact leK_ok F (by omega) h
 ·rename_i x y
  have : ¬ x.val l < y.val l := fun h => by have := hh.1 h; cases this
  exact leK_ok F (by omega) h
 ·rename_i x y
  have : x.val l ≤ y.val l := hh.2 rfl
  exact leK_ok F (by omega) h
 ·rename_i x y
  have : ¬ x.val l ≤ y.val l := fun h => by have := hh.1 h; cases this
  exact leK_ok F (by omega) h
 ·rename_i x y
  have : x.val l = y.val l := hh.2 rfl
  obtain ⟨S0, F0, h0⟩ := zeroK_ok F (Or.inl ⟨rfl, this⟩) h
  obtain ⟨S1, F1, h1⟩ := leK_ok F0 (by omega) h0
  exact leK_ok F1 (by omega) h1
 ·rename_i x y
  have hne : ¬ x.val l = y.val l := fun h => by have := hh.1 h; cases this
  obtain ⟨S0, F0, h0⟩ := zeroK_ok F (Or.inr ⟨rfl, hne⟩) h
  exact neK_ok F0 hne h0
end
def ck : Pt → Sv → Bool
 | .done, _ => true
 | .new d t, S => comp S d fun S x => pushK S x fun S => ck t S
 | .is d o t, S => comp S d fun S x => isN S x o && ck t S
 | .yes q t, S => match decZ S q with
  | some true => ck t S
  | _ => false
 | .no q t, S => match decZ S q with
  | some false => ck t S
  | _ => false
 | .fork q a b, S => match decZ S q with
  | some true => ck a S
  | some false => ck b S
  | none => learnK S q true (fun S => ck a S) && learnK S q false (fun S => ck b S)
end Go.Am.Ck
