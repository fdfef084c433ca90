/- Words of promises for texts. -/
import Derived.Test.YtcebbmappnbegaaGreatDoorM5
set_option linter.unusedSimpArgs false
set_option linter.unusedVariables false
set_option linter.unusedSectionVars false
set_option linter.unnecessarySimpa false
namespace Go.Am
section
variable {x : X} {t : TypeId} {a b l : List UInt8} {κ : V → Prop} {κh : V → H → Prop} {h : H} {i : TI}

theorem ad_s (h : a.length + b.length ≤ 1099511627776) : pw.ad x t (.s a) (.s b) κ = κ (.s (a ++ b)) := by
  simp only [pw, bin, sbin, Nat.ble_eq_true_of_le h, cond_true, oP]
theorem eq_s : pw.eq x t (.s a) (.s b) κ = κ (.b (a == b)) := by simp [pw, oP, bin, sbin]
theorem ne_s : pw.ne x t (.s a) (.s b) κ = κ (.b (!(a == b))) := by simp [pw, oP, bin, sbin]
theorem lg_s (ht : x.tt.get t = some i) (hk : i.k = .str) : pw.lg x t (.s l) κ = κ (.i .i64 l.length) := by
  simp only [pw, ti_some _ ht, lenP, hk, oP]
theorem ix_s (ht : x.tt.get t = some i) (hk : i.k = .str) {k : IntKind} {n : Nat} {c : UInt8} (hc : l[n]? = some c) : pw.ix x t (.s l) (.i k (n : Int)) κ = κ (.i .u8 c.toNat) := by
  have e : ((n : Int)) = Int.ofNat n := rfl
  simp only [pw, ixW, ti_some _ ht, hk, e, hc, oP]
theorem bnd_n {k : IntKind} {n d lim : Nat} (h : n ≤ lim) : bound (some (.i k (n : Int))) d lim = some n := by
  show (bif Nat.ble n lim then some n else none) = _
  rw [Nat.ble_eq_true_of_le h]; rfl
theorem sc_s0 (ht : x.tt.get t = some i) (hk : i.k = .str) {k : IntKind} {n : Nat} (h : n ≤ l.length) : pw.sc x t (.s l) none (some (.i k (n : Int))) none κ = κ (.s (l.take n)) := by
  have e : bound none 0 n = some 0 := rfl
  simp only [pw, slc, ti_some _ ht, hk, bnd_n h, e, oP, List.drop_zero, Nat.sub_zero]
theorem sc_s1 (ht : x.tt.get t = some i) (hk : i.k = .str) {k : IntKind} {n : Nat} (h : n ≤ l.length) : pw.sc x t (.s l) (some (.i k (n : Int))) none none κ = κ (.s (l.drop n)) := by
  have e : bound none l.length l.length = some l.length := rfl
  simp only [pw, slc, ti_some _ ht, hk, e, bnd_n h, oP]
  congr 2
  rw [List.take_of_length_le]
  rw [List.length_drop]; omega
theorem sc_s2 (ht : x.tt.get t = some i) (hk : i.k = .str) {k k' : IntKind} {n m : Nat} (h : n ≤ m) (h' : m ≤ l.length) : pw.sc x t (.s l) (some (.i k (n : Int))) (some (.i k' (m : Int))) none κ = κ (.s ((l.drop n).take (m - n))) := by
  simp only [pw, slc, ti_some _ ht, hk, bnd_n h', bnd_n h, oP]
theorem rs_i {k : IntKind} {n : Int} : pw.rs (.i k n) κ = κ (.s (Utf8.encode n).data.toList) := rfl
theorem rn_s (ht : x.tt.get t = some i) (hk : i.k = .str) : pw.rn x t (.s l) h κh = κh (.p h.next 0) ⟨h.next + 1, h.mem.put h.next (some (.it l 0))⟩ := by
  simp only [pw, ht, oP, hk]
theorem nx_t {r p : Nat} (hg : h.mem.get r = some (.it l p)) (hp : p < l.length) : pw.nx (.p r 0) true h κh = κh (.t [.b true, .i .i64 p, .i .i32 (Utf8.decode ⟨⟨l⟩⟩ p).1]) (putB h r (.it l (p + (Utf8.decode ⟨⟨l⟩⟩ p).2))) := by
  simp only [pw, nextH, cond_true, hg, show Nat.blt p l.length = true from Nat.ble_eq_true_of_le hp, vhP]
theorem nx_f {r p : Nat} (hg : h.mem.get r = some (.it l p)) (hp : l.length ≤ p) : pw.nx (.p r 0) true h κh = κh (.t [.b false]) h := by
  have e : Nat.blt p l.length = false := by
    cases e : Nat.blt p l.length with
    | false => rfl
    | true => have := Nat.le_of_ble_eq_true e; omega
  simp only [pw, nextH, cond_true, hg, e, cond_false, vhP]
end
section
variable {x : X} {t e : TypeId} {i j : TI} {κ : V → Prop}
theorem eq_pn (ht : x.tt.get t = some i) (hk : i.k = .ptr e) {r o : Nat} : pw.eq x t (.p r o) .np κ = κ (.b false) := by
  simp only [pw, bin, ti_some _ ht, eqOp, hk, oP]
theorem eq_nn (ht : x.tt.get t = some i) (hk : i.k = .ptr e) : pw.eq x t .np .np κ = κ (.b true) := by
  simp only [pw, bin, ti_some _ ht, eqOp, hk, oP]
theorem ne_pp (ht : x.tt.get t = some i) (hk : i.k = .ptr e) (he : x.tt.get e = some j) (hz : j.sz ≠ 0) {r o : Nat} : pw.ne x t (.p r o) (.p r o) κ = κ (.b false) := by
  simp only [pw, bin, ti_some _ ht, eqOp, hk, ti_some _ he, beq_no hz, cond_false, Nat.beq_refl, cond_true, oP, Bool.not_true]
end

section
variable {x : X} {t : TypeId} {i : TI} {κ : V → Prop} {e : Bool}
theorem bn_nn (ht : x.tt.get t = some i) (hk : i.k = .ifc e) : pw.bn x .neq t .ni .ni κ = κ (.b false) := by
  simp only [pw, binC, cond_true, ti_some _ ht, hk, oP]
theorem bn_in (ht : x.tt.get t = some i) (hk : i.k = .ifc e) {a : TypeId} {v : V} : pw.bn x .neq t (.ic a v) .ni κ = κ (.b true) := by
  simp only [pw, binC, bin, ti_some _ ht, eqOp, hk, oP, Bool.not_false]
end

/-! unsafe pointers, bytes frozen to a text -/
section
variable {x : X} {t s d e : TypeId} {i j q : TI} {κ : V → Prop} {κh : V → H → Prop} {h : H}
theorem cs_up (hs : x.tt.get s = some i) (hk : i.k = .ptr e) (hd : x.tt.get d = some j) (hj : j.k = .up) (he : x.tt.get e = some q) (hz : 0 < q.sz) {r o : Nat} {l : List V} {ty : TypeId} {w : Bool} (hg : h.mem.get r = some (.c l ty w)) (ho : o < l.length) : pw.cs x s d (.p r o) h κ = κ (.p r o) := by
  simp only [pw, rdVw, ti_some _ hs, ti_some _ hd, hk, hj, ti_some _ he, hg, show Nat.blt 0 q.sz = true from Nat.ble_eq_true_of_le hz, show Nat.blt o l.length = true from Nat.ble_eq_true_of_le ho, Bool.and_self, cond_true, oP]
theorem cs_pu (hs : x.tt.get s = some i) (hk : i.k = .up) (hd : x.tt.get d = some j) (hj : j.k = .ptr e) (he : x.tt.get e = some q) (hz : 0 < q.sz) (hu : unSliced x e = true) {r : Nat} {l : List V} (hg : h.mem.get r = some (.c l e true)) (hl : q.sz ≤ l.length) : pw.cs x s d (.p r 0) h κ = κ (.p r 0) := by
  simp only [pw, rdVw, ti_some _ hs, ti_some _ hd, hk, hj, ti_some _ he, hg, Nat.beq_refl, hu, show Nat.blt 0 q.sz = true from Nat.ble_eq_true_of_le hz, Nat.ble_eq_true_of_le hl, Bool.and_self, cond_true, oP]
theorem bytesOf_u8s : ∀ bs : List UInt8, bytesOf (u8s bs) = some bs
  | [] => rfl
  | b :: bs => by
    have ih := bytesOf_u8s bs
    show (match bytesOf (u8s bs) with | some r => some (UInt8.ofNat ((b.toNat : Int)).toNat :: r) | none => none) = _
    rw [ih]
    simp
theorem takeN_mk : ∀ {l : List V} {n : Nat}, n ≤ l.length → takeN l n = some (l.take n)
  | _, 0, _ => by simp [takeN]
  | [], n + 1, h => by simp at h
  | v :: l, n + 1, h => by
    have := takeN_mk (l := l) (n := n) (by simpa using h)
    simp only [takeN, this, List.take_succ_cons]
theorem sd_ns : pw.sd .ns κ = κ .np := rfl
theorem sd_sl {r o n c : Nat} {el : Bool} (h : 0 < c) : pw.sd (.sl r o n c el) κ = κ (.p r o) := by
  simp [pw, h]
theorem ls_ns (ht : x.tt.get t = some i) (hk : i.k = .sl e) : pw.ls x t .ns κ = κ (.i .i64 0) := by
  simp only [pw, ti_some _ ht, lenP, hk, oP]
theorem us_0 {u : V} (hu : u = .np ∨ ∃ r o, u = .p r o) : pw.us x t u (.i .i64 0) h κh = κh (.s []) h := by
  rcases hu with rfl | ⟨r, o, rfl⟩
  · simp only [pw, unsafeStrH, vhP]
  · cases o <;> simp only [pw, unsafeStrH, vhP]
theorem us_n (ht : x.tt.get t = some i) (hk : i.k = .ptr e) (he : x.tt.get e = some q) (hz : q.sz = 1) {r : Nat} {l : List V} {bs : List UInt8} (hg : h.mem.get r = some (.c l e true)) (hl : bs.length ≤ l.length) (hb : u8s bs = l.take bs.length) (hn : bs.length ≤ 1099511627776) (h0 : 0 < bs.length) :
    pw.us x t (.p r 0) (.i .i64 (bs.length : Int)) h κh = κh (.s bs) ⟨h.next, h.mem.put r none⟩ := by
  obtain ⟨m, hm⟩ : ∃ m, bs.length = m + 1 := ⟨bs.length - 1, by omega⟩
  have e1 : (((m + 1 : Nat)) : Int) = Int.ofNat (m + 1) := rfl
  have e2 := takeN_mk hl
  rw [hm] at e2 hb hn ⊢
  rw [← hb] at e2
  rw [e1]
  simp only [pw, unsafeStrH, ti_some _ ht, hk, ti_some _ he, hg, Nat.beq_refl, hz, Nat.ble_eq_true_of_le hn, Bool.and_self, cond_true, e2, bytesOf_u8s, T.seq_eq, vhP]
end

/-! strings.Builder -/
/-- A builder at block 'r' (of type 'tb'): what was written, in a block of its own. -/
structure Bld (h : H) (tb el : TypeId) (r : Nat) (s : V) (bs : List UInt8) : Prop where
  at_ : ∃ a, h.mem.get r = some (.c [a, s] tb true) ∧ (a = .np ∨ a = .p r 0)
  vec : Vec h s el 1 (u8s bs) bs.length
  ne : vblk s ≠ some r
  lt : ∀ q, vblk s = some q → q < h.next
  rlt : r < h.next
  nz : s = .ns ∨ 0 < bs.length
theorem Bld.keep {h h' : H} {tb el : TypeId} {r : Nat} {s : V} {bs : List UInt8} {q : Option Nat} (b : Bld h tb el r s bs) (k : But h h' q) (h1 : q ≠ some r) (h2 : vblk s ≠ q ∨ q = none) : Bld h' tb el r s bs := by
  obtain ⟨a, ha, hn⟩ := b.at_
  exact ⟨⟨a, k.get b.rlt (fun e => h1 e.symm) ha, hn⟩, b.vec.keep b.lt k h2, b.ne, fun q hq => Nat.lt_of_lt_of_le (b.lt q hq) k.1, Nat.lt_of_lt_of_le b.rlt k.1, b.nz⟩

/-- A function without a body, whose value is known. -/
theorem ext_ok {P : Program} {f : FuncId} {fn : Func} (hf : P.funcs[f]? = some fn) (hn : fnOk (mkX P) fn = false) (hb : fn.body = none) (he : (!(fn.name == "runtime.NumGoroutine") && (Extern.findNext fn).isNone) = true) {args : List V} {v : V} (hv : extV fn.name args = some v) {n : Nat} {h : H} {K : V → H → Prop} (k : K v h) : Ok P (n + 1) f args h K := by
  intro hbd
  refine ⟨v, h, ?_, hbd, Nat.le_refl _, k⟩
  simp only [sem, ftW_of hf, hn, cond_false, extS, hb, he, cond_true, hv]
end Go.Am
