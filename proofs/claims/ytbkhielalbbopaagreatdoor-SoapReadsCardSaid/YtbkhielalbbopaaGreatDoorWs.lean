/- Words of promises for texts. -/
import Derived.Test.YtbkhielalbbopaaGreatDoorM4
set_option linter.unusedSimpArgs false
set_option linter.unusedVariables false
set_option linter.unusedSectionVars false
set_option linter.unnecessarySimpa false
namespace Go.Am
section
variable {x : X} {t : TypeId} {a b l : List UInt8} {κ : V → Prop} {κh : V → H → Prop} {h : H} {i : TI}
theorem ad_s (h : a.length + b.length ≤ 1099511627776) : pw.ad x t (.s a) (.s b) κ = κ (.s (a ++ b)) := by
 simp only [pw, bin, sbin, Nat.ble_eq_true_of_le h, cond_true, oP]
theorem eq_s : pw.eq x t (.s a) (.s b) κ = κ (.b (a == b)) := by simp [pw, oP, bin, sbin]
theorem ne_s : pw.ne x t (.s a) (.s b) κ = κ (.b (!(a == b))) := by simp [pw, oP, bin, sbin]
theorem lg_s (ht : x.tt.get t = some i) (hk : i.k = .str) : pw.lg x t (.s l) κ = κ (.i .i64 l.length) := by
 simp only [pw, ti_some _ ht, lenP, hk, oP]
theorem ix_s (ht : x.tt.get t = some i) (hk : i.k = .str) {k : IntKind} {n : Nat} {c : UInt8} (hc : l[n]? = some c) : pw.ix x t (.s l) (.i k (n : Int)) κ = κ (.i .u8 c.toNat) := by
 have e : ((n : Int)) = Int.ofNat n := rfl
 simp only [pw, ixW, ti_some _ ht, hk, e, hc, oP]
theorem bnd_n {k : IntKind} {n d lim : Nat} (h : n ≤ lim) : bound (some (.i k (n : Int))) d lim = some n := by
 show (bif Nat.ble n lim then some n else none) = _
 rw [Nat.ble_eq_true_of_le h]; rfl
theorem sc_s0 (ht : x.tt.get t = some i) (hk : i.k = .str) {k : IntKind} {n : Nat} (h : n ≤ l.length) : pw.sc x t (.s l) none (some (.i k (n : Int))) none κ = κ (.s (l.take n)) := by
 have e : bound none 0 n = some 0 := rfl
 simp only [pw, slc, ti_some _ ht, hk, bnd_n h, e, oP, List.drop_zero, Nat.sub_zero]
theorem sc_s1 (ht : x.tt.get t = some i) (hk : i.k = .str) {k : IntKind} {n : Nat} (h : n ≤ l.length) : pw.sc x t (.s l) (some (.i k (n : Int))) none none κ = κ (.s (l.drop n)) := by
 have e : bound none l.length l.length = some l.length := rfl
 simp only [pw, slc, ti_some _ ht, hk, e, bnd_n h, oP]
 congr 2
 rw [List.take_of_length_le]
 rw [List.length_drop]; omega
theorem sc_s2 (ht : x.tt.get t = some i) (hk : i.k = .str) {k k' : IntKind} {n m : Nat} (h : n ≤ m) (h' : m ≤ l.length) : pw.sc x t (.s l) (some (.i k (n : Int))) (some (.i k' (m : Int))) none κ = κ (.s ((l.drop n).take (m - n))) := by
 simp only [pw, slc, ti_some _ ht, hk, bnd_n h', bnd_n h, oP]
theorem rs_i {k : IntKind} {n : Int} : pw.rs (.i k n) κ = κ (.s (Utf8.encode n).data.toList) := rfl
theorem rn_s (ht : x.tt.get t = some i) (hk : i.k = .str) : pw.rn x t (.s l) h κh = κh (.p h.next 0) ⟨h.next + 1, h.mem.put h.next (some (.it l 0))⟩ := by
 simp only [pw, ht, oP, hk]
theorem nx_t {r p : Nat} (hg : h.mem.get r = some (.it l p)) (hp : p < l.length) : pw.nx (.p r 0) true h κh = κh (.t [.b true, .i .i64 p, .i .i32 (Utf8.decode ⟨⟨l⟩⟩ p).1]) (putB h r (.it l (p + (Utf8.decode ⟨⟨l⟩⟩ p).2))) := by
 simp only [pw, nextH, cond_true, hg, show Nat.blt p l.length = true from Nat.ble_eq_true_of_le hp, vhP]
theorem nx_f {r p : Nat} (hg : h.mem.get r = some (.it l p)) (hp : l.length ≤ p) : pw.nx (.p r 0) true h κh = κh (.t [.b false]) h := by
 have e : Nat.blt p l.length = false := by
  cases e : Nat.blt p l.length with
  | false => rfl
  | true => have := Nat.le_of_ble_eq_true e; omega
 simp only [pw, nextH, cond_true, hg, e, cond_false, vhP]
end
section
variable {x : X} {t e : TypeId} {i j : TI} {κ : V → Prop}
theorem eq_pn (ht : x.tt.get t = some i) (hk : i.k = .ptr e) {r o : Nat} : pw.eq x t (.p r o) .np κ = κ (.b false) := by
 simp only [pw, bin, ti_some _ ht, eqOp, hk, oP]
theorem eq_nn (ht : x.tt.get t = some i) (hk : i.k = .ptr e) : pw.eq x t .np .np κ = κ (.b true) := by
 simp only [pw, bin, ti_some _ ht, eqOp, hk, oP]
theorem ne_pp (ht : x.tt.get t = some i) (hk : i.k = .ptr e) (he : x.tt.get e = some j) (hz : j.sz ≠ 0) {r o : Nat} : pw.ne x t (.p r o) (.p r o) κ = κ (.b false) := by
 simp only [pw, bin, ti_some _ ht, eqOp, hk, ti_some _ he, beq_no hz, cond_false, Nat.beq_refl, cond_true, oP, Bool.not_true]
end
section
variable {x : X} {t : TypeId} {i : TI} {κ : V → Prop} {e : Bool}
theorem bn_nn (ht : x.tt.get t = some i) (hk : i.k = .ifc e) : pw.bn x .neq t .ni .ni κ = κ (.b false) := by
 simp only [pw, binC, cond_true, ti_some _ ht, hk, oP]
theorem bn_in (ht : x.tt.get t = some i) (hk : i.k = .ifc e) {a : TypeId} {v : V} : pw.bn x .neq t (.ic a v) .ni κ = κ (.b true) := by
 simp only [pw, binC, bin, ti_some _ ht, eqOp, hk, oP, Bool.not_false]
end
section
variable {x : X} {t s d e : TypeId} {i j q : TI} {κ : V → Prop} {κh : V → H → Prop} {h : H}
theorem cs_up (hs : x.tt.get s = some i) (hk : i.k = .ptr e) (hd : x.tt.get d = some j) (hj : j.k = .up) (he : x.tt.get e = some q) (hz : 0 < q.sz) {r o : Nat} {l : List V} {ty : TypeId} {w : Bool} (hg : h.mem.get r = some (.c l ty w)) (ho : o < l.length) : pw.cs x s d (.p r o) h κ = κ (.p r o) := by
 simp only [pw, rdVw, ti_some _ hs, ti_some _ hd, hk, hj, ti_some _ he, hg, show Nat.blt 0 q.sz = true from Nat.ble_eq_true_of_le hz, show Nat.blt o l.length = true from Nat.ble_eq_true_of_le ho, Bool.and_self, cond_true, oP]
theorem cs_pu (hs : x.tt.get s = some i) (hk : i.k = .up) (hd : x.tt.get d = some j) (hj : j.k = .ptr e) (he : x.tt.get e = some q) (hz : 0 < q.sz) (hu : unSliced x e = true) {r : Nat} {l : List V} (hg : h.mem.get r = some (.c l e true)) (hl : q.sz ≤ l.length) : pw.cs x s d (.p r 0) h κ = κ (.p r 0) := by
 simp only [pw, rdVw, ti_some _ hs, ti_some _ hd, hk, hj, ti_some _ he, hg, Nat.beq_refl, hu, show Nat.blt 0 q.sz = true from Nat.ble_eq_true_of_le hz, Nat.ble_eq_true_of_le hl, Bool.and_self, cond_true, oP]
theorem bytesOf_u8s : ∀ bs : List UInt8, bytesOf (u8s bs) = some bs
 | [] => rfl
 | b :: bs => by
  have ih := bytesOf_u8s bs
  show (match bytesOf (u8s bs) with | some r => some (UInt8.ofNat ((b.toNat : Int)).toNat :: r) | none => none) = _
  rw [ih]
  simp
theorem takeN_mk : ∀ {l : List V} {n : Nat}, n ≤ l.length → takeN l n = some (l.take n)
 | _, 0, _ => by simp [takeN]
 | [], n + 1, h => by simp at h
 | v :: l, n + 1, h => by
  have := takeN_mk (l := l) (n := n) (by simpa using h)
  simp only [takeN, this, List.take_succ_cons]
theorem sd_ns : pw.sd .ns κ = κ .np := rfl
theorem sd_sl {r o n c : Nat} {el : Bool} (h : 0 < c) : pw.sd (.sl r o n c el) κ = κ (.p r o) := by
 simp [pw, h]
theorem ls_ns (ht : x.tt.get t = some i) (hk : i.k = .sl e) : pw.ls x t .ns κ = κ (.i .i64 0) := by
 simp only [pw, ti_some _ ht, lenP, hk, oP]
theorem us_0 {u : V} (hu : u = .np ∨ ∃ r o, u = .p r o) : pw.us x t u (.i .i64 0) h κh = κh (.s []) h := by
 rcases hu with rfl | ⟨r, o, rfl⟩
 ·simp only [pw, unsafeStrH, vhP]
 ·cases o <;> simp only [pw, unsafeStrH, vhP]
theorem us_n (ht : x.tt.get t = some i) (hk : i.k = .ptr e) (he : x.tt.get e = some q) (hz : q.sz = 1) {r : Nat} {l : List V} {bs : List UInt8} (hg : h.mem.get r = some (.c l e true)) (hl : bs.length ≤ l.length) (hb : u8s bs = l.take bs.length) (hn : bs.length ≤ 1099511627776) (h0 : 0 < bs.length) :
  pw.us x t (.p r 0) (.i .i64 (bs.length : Int)) h κh = κh (.s bs) ⟨h.next, h.mem.put r none⟩ := by
 obtain ⟨m, hm⟩ : ∃ m, bs.length = m + 1 := ⟨bs.length - 1, by omega⟩
 have e1 : (((m + 1 : Nat)) : Int) = Int.ofNat (m + 1) := rfl
 have e2 := takeN_mk hl
 rw [hm] at e2 hb hn ⊢
 rw [← hb] at e2
 rw [e1]
 simp only [pw, unsafeStrH, ti_some _ ht, hk, ti_some _ he, hg, Nat.beq_refl, hz, Nat.ble_eq_true_of_le hn, Bool.and_self, cond_true, e2, bytesOf_u8s, T.seq_eq, vhP]
end
structure Bld (h : H) (tb el : TypeId) (r : Nat) (s : V) (bs : List UInt8) : Prop where
 at_ : ∃ a, h.mem.get r = some (.c [a, s] tb true) ∧ (a = .np ∨ a = .p r 0)
 vec : Vec h s el 1 (u8s bs) bs.length
 ne : vblk s ≠ some r
 lt : ∀ q, vblk s = some q → q < h.next
 rlt : r < h.next
 nz : s = .ns ∨ 0 < bs.length
theorem Bld.keep {h h' : H} {tb el : TypeId} {r : Nat} {s : V} {bs : List UInt8} {q : Option Nat} (b : Bld h tb el r s bs) (k : But h h' q) (h1 : q ≠ some r) (h2 : vblk s ≠ q ∨ q = none) : Bld h' tb el r s bs := by
 obtain ⟨a, ha, hn⟩ := b.at_
 exact ⟨⟨a, k.get b.rlt (fun e => h1 e.symm) ha, hn⟩, b.vec.keep b.lt k h2, b.ne, fun q hq => Nat.lt_of_lt_of_le (b.lt q hq) k.1, Nat.lt_of_lt_of_le b.rlt k.1, b.nz⟩
theorem ext_ok {P : Program} {f : FuncId} {fn : Func} (hf : P.funcs[f]? = some fn) (hn : fnOk (mkX P) fn = false) (hb : fn.body = none) (he : (!(fn.name == "runtime.NumGoroutine") && (Extern.findNext fn).isNone) = true) {args : List V} {v : V} (hv : extV fn.name args = some v) {n : Nat} {h : H} {K : V → H → Prop} (k : K v h) : Ok P (n + 1) f args h K := by
 intro hbd
 refine ⟨v, h, ?_, hbd, Nat.le_refl _, k⟩
 simp only [sem, ftW_of hf, hn, cond_false, extS, hb, he, cond_true, hv]
end Go.Am

namespace Go.Am.Xm
abbrev Bs := List UInt8
def cut1 (c : UInt8) : Bs → Option (Bs × Bs)
 | [] => none
 | a :: l => if a = c then some ([], l) else match cut1 c l with
  | some p => some (a :: p.1, p.2)
  | none => none
theorem cut1_some {c : UInt8} : ∀ {l h t : Bs}, cut1 c l = some (h, t) → l = h ++ c :: t ∧ c ∉ h
 | [], h, t, e => by cases e
 | a :: l, h, t, e => by
  simp only [cut1] at e
  by_cases ha : a = c
  ·rw [if_pos ha, Option.some.injEq, Prod.mk.injEq] at e
   rw [← e.1, ← e.2, ha]; exact ⟨rfl, List.not_mem_nil⟩
  ·rw [if_neg ha] at e
   split at e
   ·rename_i p hp
    rw [Option.some.injEq, Prod.mk.injEq] at e
    obtain ⟨h1, h2⟩ := cut1_some (h := p.1) (t := p.2) hp
    rw [← e.1, ← e.2, h1]
    refine ⟨rfl, fun hm => ?_⟩
    rcases List.mem_cons.1 hm with h3 | h3
    ·exact ha h3.symm
    ·exact h2 h3
   ·cases e
theorem cut1_none {c : UInt8} : ∀ {l : Bs}, cut1 c l = none → c ∉ l
 | [], _ => List.not_mem_nil
 | a :: l, e => by
  simp only [cut1] at e
  by_cases ha : a = c
  ·rw [if_pos ha] at e; cases e
  ·rw [if_neg ha] at e
   split at e
   ·cases e
   ·rename_i hp
    intro hm
    rcases List.mem_cons.1 hm with h3 | h3
    ·exact ha h3.symm
    ·exact cut1_none hp h3
theorem cut1_mk {c : UInt8} : ∀ {h t : Bs}, c ∉ h → cut1 c (h ++ c :: t) = some (h, t)
 | [], t, _ => by simp [cut1]
 | a :: h, t, hc => by
  have ha : a ≠ c := fun e => hc (e ▸ List.mem_cons_self ..)
  have := cut1_mk (t := t) fun hm => hc (List.mem_cons_of_mem _ hm)
  simp only [List.cons_append, cut1, if_neg ha, this]
theorem cut1_len {c : UInt8} {l h t : Bs} (e : cut1 c l = some (h, t)) : h.length + t.length + 1 = l.length := by
 rw [(cut1_some e).1, List.length_append, List.length_cons]; omega
def dig (b : UInt8) : Nat := if 48 ≤ b.toNat ∧ b.toNat ≤ 57 then b.toNat - 48 else if 97 ≤ b.toNat ∧ b.toNat ≤ 102 then b.toNat - 87 else if 65 ≤ b.toNat ∧ b.toNat ≤ 70 then b.toNat - 55 else 99
def numV (base : Nat) : Nat → Bs → Option Nat
 | n, [] => some n
 | n, b :: l => if dig b < base then numV base (n * base + dig b) l else none
def mayN (n : Nat) : Bool := (Nat.ble 32 n && Nat.ble n 1114111 && (Nat.blt n 55296 || Nat.blt 57343 n)) || Nat.beq n 9 || Nat.beq n 10 || Nat.beq n 13
def numB (d : Bs) (base : Nat) : Option Bs := if d.length < 1 ∨ 8 < d.length then none else match numV base 0 d with
 | none => none
 | some n => if mayN n = true then some (Utf8.encode n).data.toList else none
def num (s : Bs) : Option Bs := match s with
 | [] => none
 | a :: l => if a = 120 then numB l 16 else numB (a :: l) 10
def sgn (s : Bs) : Option Bs :=
 if s = [97, 109, 112] then some [38] else if s = [108, 116] then some [60] else if s = [103, 116] then some [62] else if s = [113, 117, 111, 116] then some [34] else if s = [97, 112, 111, 115] then some [39] else match s with
 | [] => none
 | a :: l => if a = 35 then num l else none
theorem numB_len {d : Bs} {b : Nat} {r : Bs} (h : numB d b = some r) : 1 ≤ d.length ∧ d.length ≤ 8 := by
 unfold numB at h
 split at h
 ·cases h
 ·omega
theorem num_len {s r : Bs} (h : num s = some r) : s.length ≤ 9 := by
 unfold num at h
 split at h
 ·cases h
 ·rename_i a l
  by_cases ha : a = 120
  ·rw [if_pos ha] at h
   have := numB_len h
   rw [List.length_cons]; omega
  ·rw [if_neg ha] at h
   have := numB_len h
   omega
theorem sgn_len {s r : Bs} (h : sgn s = some r) : s.length ≤ 10 := by
 unfold sgn at h
 split at h
 ·rename_i e; subst e; decide
 split at h
 ·rename_i e; subst e; decide
 split at h
 ·rename_i e; subst e; decide
 split at h
 ·rename_i e; subst e; decide
 split at h
 ·rename_i e; subst e; decide
 split at h
 ·cases h
 ·rename_i a l
  split at h
  ·have := num_len h
   rw [List.length_cons]; omega
  ·cases h
def unE (l : Bs) : Option Bs := match l with
 | [] => some []
 | a :: l => if a = 38 then match e : cut1 59 l with
   | none => none
   | some (nm, r) => match sgn nm with
    | none => none
    | some c => have := cut1_len e; (unE r).map (c ++ ·)
  else (unE l).map (a :: ·)
termination_by l.length
decreasing_by all_goals (simp only [List.length_cons]; omega)
theorem unE_nil : unE [] = some [] := by rw [unE]
theorem unE_cons {a : UInt8} {l : Bs} (h : a ≠ 38) : unE (a :: l) = (unE l).map (a :: ·) := by rw [unE, if_neg h]
theorem unE_amp_none {l : Bs} (e : cut1 59 l = none) : unE (38 :: l) = none := by
 rw [unE, if_pos rfl]
 split
 ·rfl
 ·rename_i h; rw [e] at h; cases h
theorem unE_amp {l nm r : Bs} (e : cut1 59 l = some (nm, r)) : unE (38 :: l) = match sgn nm with
  | none => none
  | some c => (unE r).map (c ++ ·) := by
 rw [unE, if_pos rfl]
 split
 ·rename_i h; rw [e] at h; cases h
 ·rename_i nm' r' h
  rw [e] at h
  cases h
  rfl
theorem unE_app : ∀ {h t : Bs}, 38 ∉ h → unE (h ++ t) = (unE t).map (h ++ ·)
 | [], t, _ => by
  simp only [List.nil_append]
  cases unE t <;> rfl
 | a :: h, t, hc => by
  have ha : a ≠ 38 := fun e => hc (e ▸ List.mem_cons_self ..)
  rw [List.cons_append, unE_cons ha, unE_app fun hm => hc (List.mem_cons_of_mem _ hm), Option.map_map]
  rfl
theorem unE_plain {l : Bs} (h : 38 ∉ l) : unE l = some l := by
 have := unE_app (t := []) h
 rw [List.append_nil, unE_nil] at this
 rw [this]
 simp
def escB (a : UInt8) : Bs := if a = 38 then [38, 97, 109, 112, 59] else if a = 60 then [38, 108, 116, 59] else if a = 62 then [38, 103, 116, 59] else if a = 34 then [38, 113, 117, 111, 116, 59] else if a = 39 then [38, 97, 112, 111, 115, 59] else [a]
def esc : Bs → Bs
 | [] => []
 | a :: l => escB a ++ esc l
theorem escB_len (a : UInt8) : (escB a).length ≤ 6 := by
 unfold escB
 repeat' split
 all_goals simp
theorem esc_len : ∀ l : Bs, (esc l).length ≤ 6 * l.length
 | [] => Nat.le_refl _
 | a :: l => by
  have h1 := escB_len a
  have h2 := esc_len l
  simp only [esc, List.length_append, List.length_cons]; omega
theorem esc_app : ∀ a b : Bs, esc (a ++ b) = esc a ++ esc b
 | [], b => rfl
 | x :: a, b => by simp only [List.cons_append, esc, esc_app a b, List.append_assoc]
theorem unE_name {nm t c : Bs} (hn : (59 : UInt8) ∉ nm) (hs : sgn nm = some c) : unE (38 :: (nm ++ 59 :: t)) = (unE t).map (c ++ ·) := by
 rw [unE_amp (cut1_mk hn), hs]
theorem unE_esc : ∀ l : Bs, unE (esc l) = some l
 | [] => unE_nil
 | a :: l => by
  have ih := unE_esc l
  have key : ∀ {nm : Bs} {c : UInt8}, escB a = 38 :: (nm ++ [59]) → (59 : UInt8) ∉ nm → sgn nm = some [c] → c = a → unE (esc (a :: l)) = some (a :: l) := by
   intro nm c h1 h2 h3 h4
   show unE (escB a ++ esc l) = _
   rw [h1, List.cons_append, List.append_assoc, List.singleton_append, unE_name h2 h3, ih, h4]
   rfl
  by_cases h1 : a = 38
  ·exact key (nm := [97, 109, 112]) (by subst h1; rfl) (by decide) (by rfl) h1.symm
  by_cases h2 : a = 60
  ·exact key (nm := [108, 116]) (by subst h2; rfl) (by decide) (by rfl) h2.symm
  by_cases h3 : a = 62
  ·exact key (nm := [103, 116]) (by subst h3; rfl) (by decide) (by rfl) h3.symm
  by_cases h4 : a = 34
  ·exact key (nm := [113, 117, 111, 116]) (by subst h4; rfl) (by decide) (by rfl) h4.symm
  by_cases h5 : a = 39
  ·exact key (nm := [97, 112, 111, 115]) (by subst h5; rfl) (by decide) (by rfl) h5.symm
  have e : escB a = [a] := by simp only [escB, h1, h2, h3, h4, h5, if_false]
  show unE (escB a ++ esc l) = _
  rw [e, List.singleton_append, unE_cons h1, ih]
  rfl
theorem indexByte_cut (c : UInt8) : ∀ l : Bs, Lib.indexByte l c = match cut1 c l with
  | some p => (p.1.length : Int)
  | none => -1
 | [] => rfl
 | a :: l => by
  have ih := indexByte_cut c l
  have hg := Lib.indexByte_ge l c
  simp only [Lib.indexByte, cut1]
  by_cases h : a = c
  ·simp [h]
  ·have hb : (a == c) = false := by simpa using h
   rw [if_neg h, hb, if_neg (by decide)]
   cases hc : cut1 c l with
   | none => rw [hc] at ih; simp [ih]
   | some p =>
    rw [hc] at ih
    simp only at ih
    have hn : (Lib.indexByte l c == -1) = false := by rw [ih]; simp
    rw [hn, if_neg (by decide), ih]
    simp
def cut2 (x y : UInt8) : Bs → Option (Bs × Bs)
 | [] => none
 | [_] => none
 | a :: b :: l => if a = x ∧ b = y then some ([], l) else (cut2 x y (b :: l)).map fun p => (a :: p.1, p.2)
def ix2 (x y : UInt8) (l : Bs) : Int := match cut2 x y l with
 | some p => (p.1.length : Int)
 | none => -1
def sh (n : Nat) (r : Int) : Int := if r = -1 then -1 else r + n
theorem cut2_some {x y : UInt8} : ∀ {l a b : Bs}, cut2 x y l = some (a, b) → l = a ++ x :: y :: b
 | [], a, b, h => by cases h
 | [_], a, b, h => by cases h
 | c :: d :: l, a, b, h => by
  rw [cut2] at h
  split at h
  ·rename_i e
   simp only [Option.some.injEq, Prod.mk.injEq] at h
   rw [← h.1, ← h.2, e.1, e.2]; rfl
  ·obtain ⟨p, h1, h2⟩ := Option.map_eq_some_iff.1 h
   have := cut2_some (a := p.1) (b := p.2) h1
   simp only [Prod.mk.injEq] at h2
   rw [← h2.1, ← h2.2, List.cons_append, ← this]
theorem cut2_len {x y : UInt8} {l a b : Bs} (h : cut2 x y l = some (a, b)) : l.length = a.length + b.length + 2 := by
 have := congrArg List.length (cut2_some h)
 simp at this
 omega
theorem ix2_ge (x y : UInt8) (l : Bs) : -1 ≤ ix2 x y l := by
 unfold ix2
 split <;> omega
theorem ix2_le (x y : UInt8) (l : Bs) : ix2 x y l ≤ l.length := by
 unfold ix2
 split
 ·rename_i p e
  obtain ⟨a, b⟩ := p
  have := cut2_len e
  simp only; omega
 ·omega
theorem sh_m (n : Nat) : sh n (-1) = -1 := rfl
theorem sh_n {n : Nat} {r : Int} (h : 0 ≤ r) : sh n r = r + n := by
 unfold sh
 rw [if_neg (by omega)]
theorem sh_sh {a b : Nat} {r : Int} (h : -1 ≤ r) : sh a (sh b r) = sh (a + b) r := by
 by_cases hr : r = -1
 ·subst hr; rfl
 ·rw [sh_n (n := b) (r := r) (by omega), sh_n (n := a) (r := r + b) (by omega), sh_n (n := a + b) (r := r) (by omega)]; omega
theorem sh_0 {r : Int} (h : -1 ≤ r) : sh 0 r = r := by
 unfold sh
 split <;> omega
theorem ix2_cons {x y a : UInt8} {l : Bs} (h : ¬ (a = x ∧ l[0]? = some y)) : ix2 x y (a :: l) = sh 1 (ix2 x y l) := by
 cases l with
 | nil => rfl
 | cons b l =>
  have h' : ¬ (a = x ∧ b = y) := fun e => h ⟨e.1, by rw [e.2]; rfl⟩
  unfold ix2
  rw [cut2, if_neg h']
  cases cut2 x y (b :: l) with
  | none => rfl
  | some p =>
   simp only [Option.map_some, List.length_cons]
   rw [sh_n (by omega)]
   omega
theorem ix2_hit {x y : UInt8} {l : Bs} : ix2 x y (x :: y :: l) = 0 := by
 unfold ix2
 rw [cut2, if_pos ⟨rfl, rfl⟩]; rfl
theorem index_ix2 (x y : UInt8) : ∀ l : Bs, Lib.index l [x, y] = ix2 x y l
 | [] => rfl
 | a :: l => by
  have ih := index_ix2 x y l
  by_cases h : a = x ∧ l[0]? = some y
  ·obtain ⟨rfl, h2⟩ := h
   cases l with
   | nil => simp at h2
   | cons b l =>
    simp only [List.getElem?_cons_zero, Option.some.injEq] at h2
    subst h2
    rw [ix2_hit]
    simp [Lib.index, List.isPrefixOf]
  ·rw [ix2_cons h]
   have : ([x, y] : Bs).isPrefixOf (a :: l) = false := by
    cases l with
    | nil => simp [List.isPrefixOf]
    | cons b l =>
     simp only [List.isPrefixOf, List.getElem?_cons_zero, Option.some.injEq] at h ⊢
     cases h1 : (x == a) with
     | false => rfl
     | true =>
      cases h2 : (y == b) with
      | false => rfl
      | true => exact absurd ⟨(eq_of_beq h1).symm, (eq_of_beq h2).symm⟩ h
   have hg := ix2_ge x y l
   simp only [Lib.index, this, ih]
   by_cases hr : ix2 x y l = -1
   ·rw [hr]; rfl
   ·rw [sh_n (by omega), if_neg (by decide), if_neg (by rw [beq_iff_eq]; exact hr)]; rfl
theorem drop_at {l : Bs} {i : Nat} {a : UInt8} (h : l[i]? = some a) : l.drop i = a :: l.drop (i + 1) := by
 obtain ⟨h1, h2⟩ := List.getElem?_eq_some_iff.1 h
 rw [List.drop_eq_getElem_cons h1, h2]
theorem ix2_step {x y : UInt8} {l : Bs} {i : Nat} (hi : i < l.length) (h : ¬ (l[i]? = some x ∧ l[i + 1]? = some y)) : ix2 x y (l.drop i) = sh 1 (ix2 x y (l.drop (i + 1))) := by
 have ha := List.getElem?_eq_getElem hi
 rw [drop_at ha]
 refine ix2_cons fun e => h ⟨by rw [ha, e.1], ?_⟩
 have := e.2
 rwa [List.getElem?_drop] at this
theorem ix2_at {x y : UInt8} {l : Bs} {i : Nat} (h1 : l[i]? = some x) (h2 : l[i + 1]? = some y) : ix2 x y (l.drop i) = 0 := by
 rw [drop_at h1, drop_at h2, ix2_hit]
theorem ix2_short {x y : UInt8} {l : Bs} (h : l.length ≤ 1) : ix2 x y l = -1 := by
 match l, h with
 | [], _ => rfl
 | [_], _ => rfl
theorem ix2_skip {x y : UInt8} {l : Bs} : ∀ (d i : Nat), i + d ≤ l.length → (∀ j, i ≤ j → j < i + d → l[j]? ≠ some x) → ix2 x y (l.drop i) = sh d (ix2 x y (l.drop (i + d)))
 | 0, i, _, _ => by rw [Nat.add_zero, sh_0 (ix2_ge _ _ _)]
 | d + 1, i, h, hn => by
  have ih := ix2_skip (x := x) (y := y) (l := l) d (i + 1) (by omega) fun j h1 h2 => hn j (by omega) (by omega)
  rw [ix2_step (by omega) fun e => hn i (Nat.le_refl _) (by omega) e.1, ih, sh_sh (ix2_ge _ _ _)]
  rw [show i + 1 + d = i + (d + 1) by omega, Nat.add_comm 1 d]
theorem ix2_cut {x y : UInt8} {l : Bs} {i t : Nat} (ht : t + 1 = l.length) (hi : i + 1 ≤ t) (h0 : l[i]? ≠ some x) :
  (∀ a b, cut1 x ((l.drop (i + 1)).take (t - (i + 1))) = some (a, b) → l[i + 1 + a.length]? = some x ∧ i + 1 + a.length < t ∧ ix2 x y (l.drop i) = sh (a.length + 1) (ix2 x y (l.drop (i + 1 + a.length)))) ∧
  (cut1 x ((l.drop (i + 1)).take (t - (i + 1))) = none → ix2 x y (l.drop i) = -1) := by
 have hget : ∀ j, j < t - (i + 1) → ((l.drop (i + 1)).take (t - (i + 1)))[j]? = l[i + 1 + j]? := fun j hj => by
  rw [List.getElem?_take_of_lt hj, List.getElem?_drop]
 have hlen : ((l.drop (i + 1)).take (t - (i + 1))).length = t - (i + 1) := by rw [List.length_take, List.length_drop]; omega
 constructor
 ·intro a b e
  obtain ⟨e1, e2⟩ := cut1_some e
  have el := cut1_len e
  rw [hlen] at el
  have hx : l[i + 1 + a.length]? = some x := by
   rw [← hget _ (by omega), e1, List.getElem?_append_right (Nat.le_refl _), Nat.sub_self]; rfl
  refine ⟨hx, by omega, ?_⟩
  have := ix2_skip (x := x) (y := y) (l := l) (a.length + 1) i (by omega) fun j h1 h2 => ?_
  ·rw [show i + (a.length + 1) = i + 1 + a.length by omega] at this
   exact this
  ·by_cases hj : j = i
   ·rw [hj]; exact h0
   ·obtain ⟨k, rfl⟩ : ∃ k, j = i + 1 + k := ⟨j - (i + 1), by omega⟩
    rw [← hget _ (by omega), e1, List.getElem?_append_left (by omega)]
    intro e
    exact e2 (List.mem_of_getElem? e)
 ·intro e
  have := ix2_skip (x := x) (y := y) (l := l) (t - i) i (by omega) fun j h1 h2 => ?_
  ·rw [show i + (t - i) = t by omega, ix2_short (l := l.drop t) (by rw [List.length_drop]; omega)] at this
   exact this
  ·by_cases hj : j = i
   ·rw [hj]; exact h0
   ·obtain ⟨k, rfl⟩ : ∃ k, j = i + 1 + k := ⟨j - (i + 1), by omega⟩
    rw [← hget _ (by omega)]
    intro e'
    exact cut1_none e (List.mem_of_getElem? e')
def rkH (a b : UInt8) : Int := ((a.toNat : Int) * 16777619 + b.toNat) % 4294967296
theorem rk_roll (a b c : UInt8) : (((rkH a b * 16777619) % 4294967296 + c.toNat) % 4294967296 - ((637696617 : Int) * a.toNat) % 4294967296) % 4294967296 = rkH b c := by
 unfold rkH
 have ha := a.toNat_lt
 have hb := b.toNat_lt
 have hc := c.toNat_lt
 generalize a.toNat = p at *
 generalize b.toNat = q at *
 generalize c.toNat = r at *
 omega
end Go.Am.Xm
