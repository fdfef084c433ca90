/- Bytes copied; a reader of bytes. -/
import Derived.Test.YtcebbmappnbegaaGreatDoorWu0
import Derived.Test.YtcebbmappnbegaaGreatDoorM5
set_option linter.unusedSimpArgs false
set_option linter.unusedVariables false
set_option linter.unusedSectionVars false
set_option linter.unnecessarySimpa false
set_option maxRecDepth 100000
namespace Go.Am
section
variable {x : X} {t : TypeId}
theorem or_8u {a b : Int} {κ : V → Prop} (h : 0 ≤ a ∧ a ≤ 255 ∧ 0 ≤ b ∧ b ≤ 255) : pw.or x t (.i .u32 (a * 256)) (.i .u32 b) κ = κ (.i .u32 (a * 256 + b)) := by
  obtain ⟨h1, h2, h3, h4⟩ := h
  obtain ⟨a, rfl⟩ := Int.eq_ofNat_of_zero_le h1
  obtain ⟨b, rfl⟩ := Int.eq_ofNat_of_zero_le h3
  rw [or_i, BitVec.toNat_or, BitVec.toNat_ofInt, BitVec.toNat_ofInt]
  have e1 : ((((a : Int) * 256) % ((2 ^ IntKind.u32.bits : Nat) : Int)).toNat) = a * 256 := by
    rw [Int.emod_eq_of_lt (by omega) (by simp [IntKind.bits]; omega)]; omega
  have e2 : (((b : Int) % ((2 ^ IntKind.u32.bits : Nat) : Int)).toNat) = b := by
    rw [Int.emod_eq_of_lt (by omega) (by simp [IntKind.bits]; omega)]; omega
  rw [e1, e2, show a * 256 = 2 ^ 8 * a by omega, ← Nat.two_pow_add_eq_or_of_lt (by omega), wrap_u32', Int.emod_eq_of_lt (by omega) (by omega)]
  congr 2; omega
theorem sl_8u {a : Int} {κ : V → Prop} (h : 0 ≤ a ∧ a ≤ 255) : pw.sl x t (.i .u32 a) (.i .u64 8) κ = κ (.i .u32 (a * 256)) := by
  rw [show (8 : Int) = ((8 : Nat) : Int) from rfl, sl_k 8 (by decide), show (2 : Int) ^ 8 = 256 from rfl, wrap_u32', Int.emod_eq_of_lt (by omega) (by omega)]
end
end Go.Am
namespace Go.Proofs.YtcebbmappnbegaaGreatDoor.Wb
open Go Go.Am
/-- The rows of a table that are asked for. -/
structure Tx (x : X) : Prop where
  t3 : x.tt.get 3 = some ⟨.int .i64, 1, 8, false, (some [.i]), [.i .i64 0], (.i .i64 0)⟩
  t5 : x.tt.get 5 = some ⟨.int .u8, 1, 1, false, (some [.i]), [.i .u8 0], (.i .u8 0)⟩
  t31 : x.tt.get 31 = some ⟨.arr 6 5, 6, 6, true, (some [.i, .i, .i, .i, .i, .i]), [.i .u8 0, .i .u8 0, .i .u8 0, .i .u8 0, .i .u8 0, .i .u8 0], (.a [.i .u8 0, .i .u8 0, .i .u8 0, .i .u8 0, .i .u8 0, .i .u8 0])⟩
  t42 : x.tt.get 42 = some ⟨.ptr 47, 1, 8, false, none, [.np], (.np)⟩
  t51 : x.tt.get 51 = some ⟨.sl 73, 1, 24, false, none, [.ns], (.ns)⟩
  t53 : x.tt.get 53 = some ⟨.int .u32, 1, 4, false, (some [.i]), [.i .u32 0], (.i .u32 0)⟩
  t54 : x.tt.get 54 = some ⟨.sl 5, 1, 24, false, none, [.ns], (.ns)⟩
  t102 : x.tt.get 102 = some ⟨.st [(0, 31, 6), (6, 31, 6), (12, 3, 1), (13, 54, 1)], 14, 48, true, none, [.i .u8 0, .i .u8 0, .i .u8 0, .i .u8 0, .i .u8 0, .i .u8 0, .i .u8 0, .i .u8 0, .i .u8 0, .i .u8 0, .i .u8 0, .i .u8 0, .i .i64 0, .ns], (.a [.i .u8 0, .i .u8 0, .i .u8 0, .i .u8 0, .i .u8 0, .i .u8 0, .i .u8 0, .i .u8 0, .i .u8 0, .i .u8 0, .i .u8 0, .i .u8 0, .i .i64 0, .ns])⟩
  t203 : x.tt.get 203 = some ⟨.st [(0, 31, 6), (6, 31, 6), (12, 3, 1), (13, 54, 1)], 14, 48, true, none, [.i .u8 0, .i .u8 0, .i .u8 0, .i .u8 0, .i .u8 0, .i .u8 0, .i .u8 0, .i .u8 0, .i .u8 0, .i .u8 0, .i .u8 0, .i .u8 0, .i .i64 0, .ns], (.a [.i .u8 0, .i .u8 0, .i .u8 0, .i .u8 0, .i .u8 0, .i .u8 0, .i .u8 0, .i .u8 0, .i .u8 0, .i .u8 0, .i .u8 0, .i .u8 0, .i .i64 0, .ns])⟩
  t444 : x.tt.get 444 = some ⟨.st [(0, 54, 1), (1, 4, 1)], 2, 32, true, none, [.ns, .b false], (.a [.ns, .b false])⟩
theorem txx : Tx (mkX Tryz.prog) := ⟨tt3, tt5, tt31, tt42, tt51, tt53, tt54, tt102, tt203, tt444⟩

/-- A slice's bytes (it may have no room at all). -/
def Bz (h : H) (w : V) (bs : List UInt8) : Prop := BytesAt h w bs ∨ (bs = [] ∧ ∃ a b c, w = .zs a b c)
theorem Bz.cells {h : H} {w : V} {bs : List UInt8} (b : Bz h w bs) {j : TI} (hz : j.sz = 1) : lenV w = some bs.length ∧ fcells h j bs.length w = some (u8s bs) := by
  rcases b with b | ⟨rfl, a, b, c, rfl⟩
  · exact bytes_cells b hz
  · exact ⟨rfl, rfl⟩
theorem Bz.keep {h h' : H} {v : V} {bs : List UInt8} {q : Option Nat} (hb : Bz h v bs) (hd : ∀ q, vblk v = some q → q < h.next) (hk : But h h' q) (hq : vblk v ≠ q ∨ q = none) : Bz h' v bs := by
  rcases hb with b | ⟨rfl, a, b, c, rfl⟩
  · exact .inl (b.keep hd hk hq)
  · exact .inr ⟨rfl, a, b, c, rfl⟩

/-- append([]byte{}, w...) -/
theorem cpy {x : X} (T : Tx x) {h : H} {w : V} {bs : List UInt8} (hb : Bz h w bs) (hd : ∀ q, vblk w = some q → q < h.next) (hl : bs.length ≤ 1000000) {κ : V → H → Prop} (K : ∀ v' q h', Vec h' v' 5 1 (u8s bs) bs.length → vblk v' = some q → h.next ≤ q → q < h'.next → But h h' none → κ v' h') :
    pw.bs x 54 0 [] h (fun v1 h1 => pw.ap x 54 54 v1 w h1 κ) := by
  rw [bs_ok T.t54 rfl T.t5 (by decide) rfl rfl]
  have hb1 : Bz ⟨h.next + 1, h.mem.put h.next (some (.c [] 5 true))⟩ w bs := hb.keep hd (But.new h _ none) (.inr rfl)
  have hf := hb1.cells (j := ⟨.int .u8, 1, 1, false, (some [.i]), [.i .u8 0], (.i .u8 0)⟩) rfl
  refine ap_vec (cells := []) (n := 0) T.t54 rfl T.t5 T.t54 (by intro k e; cases e) hf.1 hf.2 ?_ (by rw [u8s_len, Nat.mul_one]) (u8s_one bs) (by unfold most; simp; omega) (by unfold most; omega) ?_
  · exact ⟨rfl, .inr ⟨h.next, 0, false, [], rfl, get_same, Nat.le_refl _, rfl, rfl⟩⟩
  · intro v' h' h1 h2 h3
    rw [List.nil_append, Nat.zero_add] at h1
    have hn := But.new h (.c [] 5 true) none
    have hf : But h h' none := hn.over h2 (.inr fun r e => by cases e; exact Nat.le_refl _)
    rcases h3 with h3 | ⟨h3, h4⟩
    · exact K v' h.next h' h1 h3 (Nat.le_refl _) h2.1 hf
    · exact K v' _ h' h1 h3 (Nat.le_succ _) h4 hf

/-- append of bytes onto bytes that have a block of their own. -/
theorem ap_by {x : X} (T : Tx x) {h : H} {u w : V} {us ws : List UInt8} (hv : Vec h u 5 1 (u8s us) us.length) (hb : Bz h w ws) (hl : us.length + ws.length ≤ 1000000) {κ : V → H → Prop}
    (K : ∀ v' h', Vec h' v' 5 1 (u8s (us ++ ws)) (us ++ ws).length → But h h' (vblk u) → (vblk v' = vblk u ∨ (vblk v' = some h.next ∧ h.next < h'.next)) → κ v' h') : pw.ap x 54 54 u w h κ := by
  have hf := hb.cells (j := ⟨.int .u8, 1, 1, false, (some [.i]), [.i .u8 0], (.i .u8 0)⟩) rfl
  refine ap_vec T.t54 rfl T.t5 T.t54 (by intro k e; cases e) hf.1 hf.2 hv (by rw [u8s_len, Nat.mul_one]) (u8s_one ws) (by unfold most; simp; omega) (by unfold most; omega) ?_
  intro v' h' h1 h2 h3
  rw [← u8s_app, ← List.length_append] at h1
  exact K v' h' h1 h2 h3

theorem blt_t {a b : Nat} (h : a < b) : Nat.blt a b = true := Nat.ble_eq_true_of_le h
/-- What is behind so many bytes. -/
theorem sc_by {x : X} (T : Tx x) {h : H} {v : V} {bs : List UInt8} (hb : BytesAt h v bs) {lo : Nat} (h1 : lo ≤ bs.length) {k : IntKind}
    {κ : V → Prop} (K : ∀ v', BytesAt h v' (bs.drop lo) → (vblk v' = none ∨ vblk v' = vblk v) → κ v') : pw.sc x 54 v (some (.i k (lo : Int))) none none κ := by
  have key : ∀ v', slc x 54 v (some (.i k (lo : Int))) none none = some v' → BytesAt h v' (bs.drop lo) → (vblk v' = none ∨ vblk v' = vblk v) → pw.sc x 54 v (some (.i k (lo : Int))) none none κ := by
    intro v' e hb' hq
    show oP (slc x 54 v _ none none) κ
    rw [e]; exact K v' hb' hq
  cases v with
  | sl r o n c e =>
    obtain ⟨rfl, hc, l, t, w, h3, h4, h5⟩ := hb
    have e1 : slc x 54 (.sl r o bs.length c e) (some (.i k (lo : Int))) none none = bif Nat.beq c lo then (bif Nat.beq bs.length lo then (bif e then some (.se r o (o + lo * 1)) else some (.sl r o 0 0 false)) else none) else bif Nat.blt lo c then some (.sl r (o + lo * 1) (bs.length - lo) (c - lo) e) else none := by
      simp only [slc, ti, T.t54, T.t5, goS, bound_n, bound_i h1]
    by_cases hcl : c = lo
    · have hhl : bs.length = lo := by omega
      rw [hcl, Nat.beq_refl, hhl, Nat.beq_refl] at e1
      rw [List.drop_eq_nil_of_le (by omega)] at key
      rw [hhl, hcl] at key
      rw [hhl, hcl]
      cases e with
      | true => exact key (.se r o (o + lo * 1)) e1 rfl (.inl rfl)
      | false => exact key (.sl r o 0 0 false) e1 ⟨rfl, Nat.le_refl _, l, t, w, h3, by omega, fun i hi => by simp at hi⟩ (.inr rfl)
    · rw [beq_no hcl, blt_t (by omega)] at e1
      refine key (.sl r (o + lo * 1) (bs.length - lo) (c - lo) e) e1 ⟨by simp, by omega, l, t, w, h3, by omega, fun i hi' => ?_⟩ (.inr rfl)
      simp only [List.length_drop] at hi'
      rw [show o + lo * 1 + i = o + (lo + i) by omega, h5 _ (by omega)]
      congr 3
      simp only [List.getD_eq_getElem?_getD, List.getElem?_drop]
  | ns =>
    obtain rfl : bs = [] := hb
    obtain rfl : lo = 0 := by simpa using h1
    exact key .ns (by simp only [slc, ti, T.t54, T.t5, goE, bound_n, bound_i (Nat.le_refl 0)]) rfl (.inl rfl)
  | ze r =>
    obtain rfl : bs = [] := hb
    obtain rfl : lo = 0 := by simpa using h1
    exact key (.ze r) (by simp only [slc, ti, T.t54, T.t5, goE, bound_n, bound_i (Nat.le_refl 0)]) rfl (.inl rfl)
  | se r a b =>
    obtain rfl : bs = [] := hb
    obtain rfl : lo = 0 := by simpa using h1
    exact key (.se r a b) (by simp only [slc, ti, T.t54, T.t5, goE, bound_n, bound_i (Nat.le_refl 0)]) rfl (.inl rfl)
  | _ => exact (show False from hb).elim
/-- So many bytes, and no room behind. -/
theorem sc_mx {x : X} (T : Tx x) {h : H} {v : V} {bs : List UInt8} (hb : BytesAt h v bs) {m : Nat} (h1 : m ≤ bs.length) {k : IntKind}
    {κ : V → Prop} (K : ∀ v', Bz h v' (bs.take m) → (∀ z, vblk v' = some z → vblk v = some z) → κ v') : pw.sc x 54 v none (some (.i k (m : Int))) (some (.i k (m : Int))) κ := by
  have key : ∀ v', slc x 54 v none (some (.i k (m : Int))) (some (.i k (m : Int))) = some v' → Bz h v' (bs.take m) → (∀ z, vblk v' = some z → vblk v = some z) → pw.sc x 54 v none (some (.i k (m : Int))) (some (.i k (m : Int))) κ := by
    intro v' e hb' hq
    show oP (slc x 54 v none _ _) κ
    rw [e]; exact K v' hb' hq
  cases v with
  | sl r o n c e =>
    obtain ⟨rfl, hc, l, t, w, h3, h4, h5⟩ := hb
    have e0 : (bif Nat.beq m 0 then o else o + 0 * 1) = o := by cases Nat.beq m 0 <;> simp
    have e1 : slc x 54 (.sl r o bs.length c e) none (some (.i k (m : Int))) (some (.i k (m : Int))) = some (.sl r o m m false) := by
      simp only [slc, ti, T.t54, T.t5, goS, bound_n, bound_i (Nat.le_trans h1 hc), bound_i (Nat.le_refl m)]
      rw [e0]; rfl
    refine key _ e1 (.inl ⟨by simp; omega, Nat.le_refl _, l, t, w, h3, by omega, fun i hi' => ?_⟩) fun z hz => hz
    simp only [List.length_take] at hi'
    rw [h5 _ (by omega)]
    congr 3
    simp only [List.getD_eq_getElem?_getD, List.getElem?_take]
    rw [if_pos (by omega)]
  | ns =>
    obtain rfl : bs = [] := hb
    obtain rfl : m = 0 := by simpa using h1
    exact key .ns (by simp only [slc, ti, T.t54, T.t5, goE, bound_n, bound_i (Nat.le_refl 0)]) (.inl rfl) fun z hz => hz
  | ze r =>
    obtain rfl : bs = [] := hb
    obtain rfl : m = 0 := by simpa using h1
    exact key (.ze r) (by simp only [slc, ti, T.t54, T.t5, goE, bound_n, bound_i (Nat.le_refl 0)]) (.inl rfl) fun z hz => hz
  | se r a b =>
    obtain rfl : bs = [] := hb
    obtain rfl : m = 0 := by simpa using h1
    exact key (.zs r a b) (by simp only [slc, ti, T.t54, T.t5, goE, bound_n, bound_i (Nat.le_refl 0)]) (.inr ⟨rfl, r, a, b, rfl⟩) fun z hz => by first | exact hz | cases hz
  | _ => exact (show False from hb).elim

/-- A reader, and what is left of its bytes. -/
structure Rd (h : H) (N R : Nat) (bs : List UInt8) : Prop where
  lt : R < N
  le : N ≤ h.next
  ex : ∃ v, h.mem.get R = some (.c [v, .b false] 444 true) ∧ BytesAt h v bs ∧ ∀ z, vblk v = some z → z < N ∧ z ≠ R
theorem Rd.keep {h h' : H} {N R : Nat} {bs : List UInt8} {q : Option Nat} (r : Rd h N R bs) (f : But h h' q) (hq : ∀ z, q = some z → N ≤ z) : Rd h' N R bs := by
  obtain ⟨h1, h2, v, h3, h4, h5⟩ := r
  refine ⟨h1, Nat.le_trans h2 f.1, v, f.get (by omega) (fun e => by have := hq _ e.symm; omega) h3, h4.keep (fun z hz => by have := (h5 z hz).1; omega) f ?_, h5⟩
  cases q with
  | none => exact .inr rfl
  | some z => exact .inl fun e => by have := hq z rfl; have := (h5 z e).1; omega

theorem rb_ok {n : Nat} (hn : 1 ≤ n) {h : H} {N R k : Nat} {bs : List UInt8} (r : Rd h N R bs) (hk : k ≤ bs.length) (hl : bs.length ≤ 100000) {K : V → H → Prop}
    (c : ∀ h' v q, Bd h' → Rd h' N R (bs.drop k) → But h h' (some R) → Vec h' v 5 1 (u8s (bs.take k)) (bs.take k).length → vblk v = some q → h.next ≤ q → q < h'.next → K v h') : Ok Tryz.prog n 162 [.p R 0, .i .i64 (k : Nat)] h K := by
  obtain ⟨n, rfl⟩ := Nat.exists_eq_add_of_le' hn
  obtain ⟨h1, h2, v, h3, h4, h5⟩ := r
  refine Ok.bd (K162 fun hbd => ?_)
  unfold F162
  have T := txx
  generalize mkX Tryz.prog = x at T ⊢
  simp (disch := omega) only [ws, dec_f, g0_f, pk_f, nl_p, fa_p]
  rw [l1_a h3 rfl]
  rw [bytes_len T.t54 rfl h4]
  simp (disch := omega) only [ws, dec_f, g0_f, pk_f, cd_f]
  unfold F162_4
  simp (disch := omega) only [nl_p, fa_p, Nat.zero_add]
  rw [l1_a h3 rfl]
  refine sc_mx T h4 hk fun w hw hwz => ?_
  rw [l1_a h3 rfl]
  refine sc_by T h4 hk fun v2 hv2 hq2 => ?_
  refine s1_a h3 (by simp) (bytes_cellsOf hv2).2 fun h6 g6 f6 => ?_
  have ltw : ∀ z, vblk w = some z → z < h.next ∧ z ≠ R := fun z hz => by have := h5 z (hwz z hz); exact ⟨by omega, this.2⟩
  have ltv : ∀ z, vblk v2 = some z → z < N ∧ z ≠ R := fun z hz => by
    rcases hq2 with e | e
    · rw [e] at hz; cases hz
    · exact h5 z (e ▸ hz)
  refine cpy T (hw.keep (fun z hz => (ltw z hz).1) f6 (.inl fun e => (ltw R e).2 rfl)) (fun z hz => Nat.lt_of_lt_of_le (ltw z hz).1 f6.1) (by simp; omega) fun v' q h7 hv' hq hq1 hq2' f7 => ?_
  intro hb7
  have f := bn1' f6 f7
  refine c h7 v' q hb7 ⟨h1, Nat.le_trans h2 f.1, v2, f7.get (by have := f6.1; omega) (by simp) g6, (hv2.keep (fun z hz => by have := (ltv z hz).1; omega) f6 (.inl fun e => (ltv R e).2 rfl)).keep (fun z hz => by have := (ltv z hz).1; have := f6.1; omega) f7 (.inr rfl), ltv⟩ f hv' hq (Nat.le_trans f6.1 hq1) hq2'
where
  bn1' {h0 h1 h2 : H} {c : Option Nat} (f : But h0 h1 c) (g : But h1 h2 none) : But h0 h2 c := ⟨Nat.le_trans f.1 g.1, fun q hq hc => by rw [g.2.1 q (Nat.lt_of_lt_of_le hq f.1) (by simp), f.2.1 q hq hc], g.2.2 ∘ f.2.2⟩
end Go.Proofs.YtcebbmappnbegaaGreatDoor.Wb
