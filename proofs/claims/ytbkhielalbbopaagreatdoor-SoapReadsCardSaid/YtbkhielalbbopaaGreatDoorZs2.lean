/- What cutting, and building a text, come to. -/
import Derived.Test.YtbkhielalbbopaaGreatDoorWs
import Derived.Test.YtbkhielalbbopaaGreatDoorUx0
set_option linter.unusedSimpArgs false
set_option linter.unusedVariables false
set_option linter.unusedSectionVars false
set_option linter.unnecessarySimpa false
set_option maxRecDepth 100000
namespace Go.Proofs.YtbkhielalbbopaaGreatDoor.Wb
open Go Go.Am Go.Am.Xm
theorem ib_ok {n : Nat} {l : Bs} {c : UInt8} {h : H} {K : V → H → Prop} (k : K (.i .i64 (Lib.indexByte l c)) h) : Ok Tryz.prog (n + 1) 186 [.s l, .i .u8 c.toNat] h K := by
 refine ext_ok Tryz.func186 (by kernel_rfl) (by kernel_rfl) (by kernel_rfl) (v := .i .i64 (Lib.indexByte l c)) ?_ k
 have : Tryz.f186.name = "internal/bytealg.IndexByteString" := by kernel_rfl
 rw [this]
 show (some (V.i .i64 (Lib.indexByte l ((c.toNat : Int).toNat.toUInt8))) : Option V) = _
 simp
theorem ne_ok {n : Nat} {r o : Nat} {h : H} {K : V → H → Prop} (k : K (.p r o) h) : Ok Tryz.prog (n + 1) 166 [.p r o] h K := by
 refine ext_ok Tryz.func166 (by kernel_rfl) (by kernel_rfl) (by kernel_rfl) (v := .p r o) ?_ k
 have : Tryz.f166.name = "internal/abi.NoEscape" := by kernel_rfl
 rw [this]
 rfl
theorem idx1_ok {n : Nat} (hn : 3 ≤ n) {l : Bs} {c : UInt8} {h : H} {K : V → H → Prop} (k : K (.i .i64 (Lib.indexByte l c)) h) : Ok Tryz.prog n 137 [.s l, .s [c]] h K := by
 obtain ⟨n, rfl⟩ := Nat.exists_eq_add_of_le' hn
 refine Ok.bd (K137 fun hbd => ?_)
 unfold F137
 have e : ([c] : Bs)[0]? = some c := rfl
 simp (disch := omega) only [ws, lg_s tt9 rfl, List.length_singleton, Int.cast_ofNat_Int, dec_t, dec_f, eq_s]
 cases hc : ([c] == l) with
 | true =>
  have := eq_of_beq hc
  subst this
  simp (disch := omega) only [ws]
  intro hb2
  have : Lib.indexByte [c] c = 0 := by simp [Lib.indexByte]
  rw [this] at k
  exact k
 | false =>
  have e0 : ∀ κ : V → Prop, pw.ix (mkX Tryz.prog) 9 (.s [c]) (.i .i64 0) κ = κ (.i .u8 c.toNat) := fun κ => ix_s tt9 rfl (n := 0) e
  simp (disch := omega) only [ws, e0]
  refine K159 fun hbd2 => ?_
  unfold F159
  simp (disch := omega) only [ws]
  exact ib_ok fun _ => k
theorem cut_ok {n : Nat} (hn : 5 ≤ n) {l : Bs} {c : UInt8} {h : H} {K : V → H → Prop} (hl : l.length ≤ 1099511627776)
  (k1 : ∀ a b, cut1 c l = some (a, b) → K (.t [.s a, .s b, .b true]) h) (k0 : cut1 c l = none → K (.t [.s l, .s [], .b false]) h) : Ok Tryz.prog n 80 [.s l, .s [c]] h K := by
 obtain ⟨n, rfl⟩ := Nat.exists_eq_add_of_le' hn
 refine Ok.bd (K80 fun hbd => ?_)
 unfold F80
 simp (disch := omega) only [ws]
 refine K110 fun hbd => ?_
 unfold F110
 simp (disch := omega) only [ws]
 refine idx1_ok (by omega) ?_
 rw [indexByte_cut]
 cases hc : cut1 c l with
 | none =>
  simp (disch := omega) only [ws, dec_f, F110_6]
  exact fun _ => k0 hc
 | some p =>
  obtain ⟨a, b⟩ := p
  have e1 := (cut1_some hc).1
  have e2 := cut1_len hc
  have d0 : decide ((0 : Int) ≤ (a.length : Int)) = true := by simp
  simp only
  simp (disch := omega) only [ws, d0]
  rw [sc_s0 tt9 rfl (by omega)]
  simp (disch := omega) only [ws, lg_s tt9 rfl, List.length_singleton, Int.cast_ofNat_Int]
  rw [show ((a.length : Int) + 1) = ((a.length + 1 : Nat) : Int) by omega, sc_s1 tt9 rfl (by omega)]
  simp (disch := omega) only [ws, List.getElem?_cons_zero, List.getElem?_cons_succ]
  intro _
  have t1 : l.take a.length = a := by rw [e1]; simp
  have t2 : l.drop (a.length + 1) = b := by
   have : l = (a ++ [c]) ++ b := by rw [e1]; simp
   rw [this]
   exact List.drop_left' (by simp)
  rw [t1, t2]
  exact k1 a b hc
theorem uns165 : unSliced (mkX Tryz.prog) 165 = true := by kernel_rfl
theorem chk_ok {n : Nat} (hn : 2 ≤ n) {h : H} {K : V → H → Prop} {r : Nat} {s : V} {bs : Bs} (b : Bld h 165 5 r s bs)
  (k : ∀ h', Bld h' 165 5 r s bs → But h h' (some r) → K (.t []) h') : Ok Tryz.prog n 143 [.p r 0] h K := by
 obtain ⟨n, rfl⟩ := Nat.exists_eq_add_of_le' hn
 refine Ok.bd (K143 fun hbd => ?_)
 unfold F143
 obtain ⟨a, ha, rfl | rfl⟩ := b.at_
 ·simp (disch := omega) only [ws, Nat.zero_add]
  rw [l1_a ha rfl, eq_nn tt163 rfl]
  simp (disch := omega) only [ws]
  rw [cs_up tt163 rfl tt200 rfl tt165 (by decide) ha (by simp)]
  refine ne_ok ?_
  rw [cs_pu tt200 rfl tt163 rfl tt165 (by decide) uns165 ha (by simp)]
  refine s1_a ha (by simp) (by rfl) fun h' h1 h2 _ => ?_
  exact k h' ⟨⟨.p r 0, h1, .inr rfl⟩, b.vec.keep b.lt h2 (.inl b.ne), b.ne, fun q hq => Nat.lt_of_lt_of_le (b.lt q hq) h2.1, Nat.lt_of_lt_of_le b.rlt h2.1, b.nz⟩ h2
 ·simp (disch := omega) only [ws, Nat.zero_add]
  rw [l1_a ha rfl, eq_pn tt163 rfl]
  simp (disch := omega) only [ws, Nat.zero_add]
  rw [l1_a ha rfl, ne_pp tt163 rfl tt165 (by decide)]
  simp (disch := omega) only [ws]
  intro _
  exact k h b (But.refl _ _)
theorem wr_ok {n : Nat} (hn : 3 ≤ n) {h : H} {K : V → H → Prop} {r : Nat} {s : V} {bs l : Bs} (b : Bld h 165 5 r s bs) (hl : bs.length + l.length ≤ 1099511627776)
  (k : ∀ h' s', Bld h' 165 5 r s' (bs ++ l) → But2 h h' r (vblk s) → (vblk s' = vblk s ∨ ∀ z, vblk s' = some z → h.next ≤ z) → K (.t [.i .i64 l.length, .ni]) h') : Ok Tryz.prog n 118 [.p r 0, .s l] h K := by
 obtain ⟨n, rfl⟩ := Nat.exists_eq_add_of_le' hn
 refine Ok.bd (K118 fun hbd => ?_)
 unfold F118
 simp (disch := omega) only [ws]
 refine chk_ok (by omega) b fun h1 b1 f1 => ?_
 obtain ⟨a, ha, hn⟩ := b1.at_
 simp (disch := omega) only [ws, Nat.zero_add]
 rw [l1_a ha rfl]
 by_cases hl0 : l = []
 ·subst hl0
  have he : appendH (mkX Tryz.prog) h1 60 9 s (.s []) = some (s, h1) := by
   unfold appendH
   rw [ti_some _ tt60]
   simp only
   rw [ti_some _ tt5, ti_some _ tt9]
   rcases b1.vec.2 with ⟨e, _⟩ | ⟨r', c', e', l', e, _, hc, _⟩
   ·rw [e]; rfl
   ·rw [e]
    simp only [lenV, List.length_nil, fcells, List.take_nil, List.map_nil]
    unfold appA
    simp only [Nat.beq_refl, cond_true, Nat.ble_eq_true_of_le hc]
  refine ap_e he ?_
  refine s1_a ha (by simp) ?_ fun h3 h4 f3 _ => ?_
  ·rcases b1.vec.2 with ⟨e, _⟩ | ⟨r', c', e', l', e, _⟩ <;> rw [e] <;> rfl
  rw [List.append_nil] at k
  refine k h3 s ⟨⟨a, h4, hn⟩, b1.vec.keep b1.lt f3 (.inl b1.ne), b1.ne, fun q hq => Nat.lt_of_lt_of_le (b1.lt q hq) f3.1, Nat.lt_of_lt_of_le b1.rlt f3.1, b1.nz⟩ ?_ (.inl rfl)
  exact (f1.two (.inr (.inl rfl))).trans (f3.two (.inr (.inl rfl)))
 refine ap_vec tt60 rfl tt5 tt9 (by intro k; simp) (w := .s l) (m := l.length) rfl (cs := u8s l) ?_ b1.vec (by simp [u8s]) (u8s_one l) (by simp [most]; omega) (by simp [most]; omega) fun s' h2 v2 f2 hs => ?_
 ·simp [fcells, u8s]
 rw [← u8s_app] at v2
 rw [show bs.length + l.length = (bs ++ l).length by simp] at v2
 have ha2 : h2.mem.get r = some (.c [a, s] 165 true) := f2.get b1.rlt (fun e => b1.ne e.symm) ha
 have ne' : vblk s' ≠ some r := by
  rcases hs with e | ⟨e, _⟩
  ·rw [e]; exact b1.ne
  ·rw [e]
   intro e2
   have := b1.rlt
   cases e2
   omega
 have lt' : ∀ q, vblk s' = some q → q < h2.next := fun q hq => by
  rcases hs with e | ⟨e, e2⟩
  ·rw [e] at hq; exact Nat.lt_of_lt_of_le (b1.lt q hq) f2.1
  ·rw [e] at hq; cases hq; exact e2
 refine s1_a ha2 (by simp) ?_ fun h3 h4 f3 _ => ?_
 ·rcases v2.2 with ⟨e, _⟩ | ⟨r', c', e', l', e, _⟩ <;> rw [e] <;> rfl
 have lt3 : ∀ q, vblk s' = some q → q < h3.next := fun q hq => Nat.lt_of_lt_of_le (lt' q hq) f3.1
 refine k h3 s' ⟨⟨a, h4, hn⟩, v2.keep lt' f3 (.inl ne'), ne', lt3, Nat.lt_of_lt_of_le b1.rlt (Nat.le_trans f2.1 f3.1), .inr (by have := List.length_pos_iff.2 hl0; rw [List.length_append]; omega)⟩ ?_ ?_
 ·exact ((f1.two (.inr (.inl rfl))).trans (f2.two (.inr (.inr rfl)))).trans (f3.two (.inr (.inl rfl)))
 ·rcases hs with e | ⟨e, e2⟩
  ·exact .inl e
  ·refine .inr fun z hz => ?_
   rw [e] at hz
   cases hz
   exact f1.1
theorem str_ok {n : Nat} (hn : 1 ≤ n) {h : H} {K : V → H → Prop} {r : Nat} {s : V} {bs : Bs} (b : Bld h 165 5 r s bs) (hl : bs.length ≤ 1099511627776)
  (k : ∀ h', But h h' (vblk s) → K (.s bs) h') : Ok Tryz.prog n 119 [.p r 0] h K := by
 obtain ⟨n, rfl⟩ := Nat.exists_eq_add_of_le' hn
 refine Ok.bd (K119 fun hbd => ?_)
 unfold F119
 obtain ⟨a, ha, hn⟩ := b.at_
 simp (disch := omega) only [ws, Nat.zero_add]
 rw [l1_a ha rfl]
 rcases b.vec.2 with ⟨e, e0⟩ | ⟨r', c', e', l', e, hg, hc, hlen, htk⟩
 ·subst e
  have : bs = [] := List.length_eq_zero_iff.1 e0
  subst this
  rw [sd_ns, l1_a ha rfl, ls_ns tt60 rfl, us_0 (.inl rfl)]
  intro _
  exact k h (But.refl _ _)
 ·subst e
  have h0 : 0 < bs.length := b.nz.resolve_left (by simp)
  rw [sd_sl (by omega), l1_a ha rfl, ls_sl tt60 rfl]
  rw [us_n tt182 rfl tt5 rfl hg (by rw [hlen]; simpa using hc) (by rw [htk, Nat.mul_one]) hl h0]
  intro hb3
  exact k _ ⟨Nat.le_refl _, fun q hq hne => by
   show (h.mem.put r' none).get q = _
   rw [T.get_put, if_neg (fun e => hne (by rw [← e]; rfl))], fun _ => hb3⟩
def mayC (c : Int) : Bool := decide (32 ≤ c) || (decide (c = 9) || (decide (c = 10) || decide (c = 13)))
theorem may_ok {n : Nat} (hn : 1 ≤ n) {c : Int} {h : H} {K : V → H → Prop} (k : K (.b (mayC c)) h) : Ok Tryz.prog n 75 [.i .i32 c] h K := by
 obtain ⟨n, rfl⟩ := Nat.exists_eq_add_of_le' hn
 refine Ok.bd (K75 fun hbd => ?_)
 unfold F75
 unfold mayC at k
 cases e1 : decide (32 ≤ c) <;> rw [e1] at k <;> simp (disch := omega) only [ws, e1]
 ·cases e2 : decide (c = 9) <;> rw [e2] at k <;> simp (disch := omega) only [ws, e2]
  ·cases e3 : decide (c = 10) <;> rw [e3] at k <;> simp (disch := omega) only [ws, e3]
   ·exact fun _ => k
   ·exact fun _ => k
  ·exact fun _ => k
 ·exact fun _ => k
def valC (c : Int) : Bool := (decide (0 ≤ c) && decide (c < 55296)) || (decide (57343 < c) && decide (c ≤ 1114111))
theorem val_ok {n : Nat} (hn : 1 ≤ n) {c : Int} {h : H} {K : V → H → Prop} (k : K (.b (valC c)) h) : Ok Tryz.prog n 189 [.i .i32 c] h K := by
 obtain ⟨n, rfl⟩ := Nat.exists_eq_add_of_le' hn
 refine Ok.bd (K189 fun hbd => ?_)
 unfold F189
 unfold valC at k
 cases e1 : decide (0 ≤ c) <;> rw [e1] at k <;> simp (disch := omega) only [ws, e1]
 ·cases e3 : decide (57343 < c) <;> rw [e3] at k <;> simp (disch := omega) only [ws, e3, F189_3]
  ·exact fun _ => k
  ·cases e4 : decide (c ≤ 1114111) <;> rw [e4] at k <;> simp (disch := omega) only [ws, e4, F189_3]
   ·exact fun _ => k
   ·exact fun _ => k
 ·cases e2 : decide (c < 55296) <;> rw [e2] at k <;> simp (disch := omega) only [ws, e2]
  ·cases e3 : decide (57343 < c) <;> rw [e3] at k <;> simp (disch := omega) only [ws, e3, F189_3]
   ·exact fun _ => k
   ·cases e4 : decide (c ≤ 1114111) <;> rw [e4] at k <;> simp (disch := omega) only [ws, e4, F189_3]
    ·exact fun _ => k
    ·exact fun _ => k
  ·exact fun _ => k
def hasP (p l : Bs) : Bool := l.take p.length == p
theorem hasP_ok {n : Nat} (hn : 1 ≤ n) {p l : Bs} {h : H} {K : V → H → Prop} (k : K (.b (hasP p l)) h) : Ok Tryz.prog n 157 [.s l, .s p] h K := by
 obtain ⟨n, rfl⟩ := Nat.exists_eq_add_of_le' hn
 refine Ok.bd (K157 fun hbd => ?_)
 unfold F157
 simp (disch := omega) only [ws, lg_s tt9 rfl]
 by_cases hl : p.length ≤ l.length
 ·have d1 : decide ((p.length : Int) ≤ (l.length : Int)) = true := by simpa using hl
  simp (disch := omega) only [ws, d1]
  rw [lg_s tt9 rfl, sc_s0 tt9 rfl hl, eq_s]
  exact fun _ => k
 ·have d1 : decide ((p.length : Int) ≤ (l.length : Int)) = false := by simpa using hl
  simp (disch := omega) only [ws, d1]
  have : hasP p l = false := by
   unfold hasP
   cases e : (l.take p.length == p) with
   | false => rfl
   | true =>
    have := congrArg List.length (eq_of_beq e)
    rw [List.length_take] at this
    omega
  rw [this] at k
  exact fun _ => k
theorem cutp_ok {n : Nat} (hn : 3 ≤ n) {p l : Bs} {h : H} {K : V → H → Prop} (k : K (if hasP p l = true then .t [.s (l.drop p.length), .b true] else .t [.s l, .b false]) h) : Ok Tryz.prog n 106 [.s l, .s p] h K := by
 obtain ⟨n, rfl⟩ := Nat.exists_eq_add_of_le' hn
 refine Ok.bd (K106 fun hbd => ?_)
 unfold F106
 simp (disch := omega) only [ws]
 refine K134 fun hbd => ?_
 unfold F134
 simp (disch := omega) only [ws]
 refine hasP_ok (by omega) ?_
 cases e : hasP p l with
 | false =>
  rw [e, if_neg (by decide)] at k
  simp (disch := omega) only [ws, List.getElem?_cons_zero, List.getElem?_cons_succ]
  exact fun _ => k
 | true =>
  rw [e, if_pos rfl] at k
  have hl : p.length ≤ l.length := by
   have := congrArg List.length (eq_of_beq (show (l.take p.length == p) = true from e))
   rw [List.length_take] at this
   omega
  simp (disch := omega) only [ws, F134_5, lg_s tt9 rfl]
  rw [sc_s1 tt9 rfl hl]
  simp (disch := omega) only [ws, List.getElem?_cons_zero, List.getElem?_cons_succ]
  exact fun _ => k
theorem copy_str {h : H} {r : Nat} {l : Bs} (h0 : 0 < l.length) (hg : h.mem.get r = some (.c (u8s (List.replicate l.length 0)) 5 true)) :
  copyH (mkX Tryz.prog) h 60 (.sl r 0 l.length l.length false) (.s l) = some (.i .i64 (l.length : Int), ⟨h.next, h.mem.put r (some (.c (u8s l) 5 true))⟩) := by
 have e1 : over (u8s (List.replicate l.length 0)) (u8s l) = some (u8s l) := by
  rw [over_mk (by simp [u8s])]
  simp [u8s]
 have e2 : storeB h r 0 (u8s l) = some ⟨h.next, h.mem.put r (some (.c (u8s l) 5 true))⟩ := by
  unfold storeB
  rw [hg]
  simp only [u8s_one, Bool.and_self, cond_true]
  cases hl : u8s (List.replicate l.length 0) with
  | nil => simp only [overAt]; rw [hl] at e1; simp only [e1, T.seq_eq]
  | cons a b => simp only [overAt]; rw [hl] at e1; simp only [e1, T.seq_eq]
 have e3 : Nat.beq l.length 0 = false := beq_no (by omega)
 unfold copyH
 rw [ti_some _ tt60]
 simp only
 rw [ti_some _ tt5]
 simp only [lenV, Nat.min_self, fcells, List.take_length, e3, cond_false]
 rw [show (l.map fun c => V.i .u8 (c.toNat : Int)) = u8s l from rfl, e2]
theorem clone_ok {n : Nat} (hn : 1 ≤ n) {l : Bs} {h : H} {K : V → H → Prop} (hl : l.length ≤ 1099511627776) (k : ∀ h', But h h' none → K (.s l) h') : Ok Tryz.prog n 175 [.s l] h K := by
 obtain ⟨n, rfl⟩ := Nat.exists_eq_add_of_le' hn
 refine Ok.bd (K175 fun hbd => ?_)
 unfold F175
 rw [lg_s tt9 rfl]
 by_cases h0 : l = []
 ·subst h0
  simp (disch := omega) only [ws, List.length_nil, Int.cast_ofNat_Int, dec_t]
  exact fun _ => k h (But.refl _ _)
 ·have hp := List.length_pos_iff.2 h0
  have d0 : decide ((l.length : Int) = 0) = false := by simpa using h0
  simp (disch := omega) only [ws, d0, F175_3]
  rw [lg_s tt9 rfl]
  show (0 : Int) ≤ (l.length : Int) ∧ (l.length : Int) ≤ (l.length : Int) ∧ _
  refine ⟨by omega, Int.le_refl _, ?_⟩
  rw [tt60]
  simp only [oP]
  rw [tt5]
  simp only [Int.toNat_natCast]
  refine ⟨by omega, by omega, ?_⟩
  rw [repl_bytes]
  have hg : (h.mem.put h.next (some (B.c (u8s (List.replicate l.length 0)) 5 true))).get h.next = some (B.c (u8s (List.replicate l.length 0)) 5 true) := by rw [T.get_put, if_pos rfl]
  have hc := copy_str (h := ⟨h.next + 1, h.mem.put h.next (some (B.c (u8s (List.replicate l.length 0)) 5 true))⟩) hp hg
  show vhP (copyH (mkX Tryz.prog) _ 60 _ _) _
  rw [hc]
  simp only [vhP]
  show (0 : Int) ≤ 0 ∧ (0 : Int) < (l.length : Int) ∧ _
  refine ⟨Int.le_refl _, by omega, ?_⟩
  dsimp only
  rw [ls_sl tt60 rfl]
  simp only [Int.toNat_zero, Nat.zero_mul, Nat.add_zero]
  have hg2 : ((h.mem.put h.next (some (B.c (u8s (List.replicate l.length 0)) 5 true))).put h.next (some (B.c (u8s l) 5 true))).get h.next = some (B.c (u8s l) 5 true) := by rw [T.get_put, if_pos rfl]
  rw [us_n tt182 rfl tt5 rfl hg2 (by simp [u8s]) (by rw [← u8s_len l, List.take_length]) hl hp]
  intro hb2
  refine k _ ⟨Nat.le_succ _, fun q hq _ => ?_, fun _ => hb2⟩
  show (((h.mem.put h.next _).put h.next _).put h.next none).get q = _
  rw [T.get_put, if_neg (by omega), T.get_put, if_neg (by omega), T.get_put, if_neg (by omega)]
structure Low (h : H) : Prop where
 ml : ∃ m ty w, h.mem.get 2 = some (.c [.i .i64 m] ty w)
 es : ∃ t r ty w, h.mem.get 4 = some (.c [.ic t (.p r 0)] ty w)
 nx : 16 ≤ h.next
theorem Low.keep {h h' : H} {q : Option Nat} (L : Low h) (k : But h h' q) (hq : ∀ r, q = some r → 16 ≤ r) : Low h' := by
 obtain ⟨m, ty, w, e1⟩ := L.ml
 obtain ⟨t, r, ty', w', e2⟩ := L.es
 have := L.nx
 exact ⟨⟨m, ty, w, k.get (by omega) (fun e => by have := hq 2 e.symm; omega) e1⟩, ⟨t, r, ty', w', k.get (by omega) (fun e => by have := hq 4 e.symm; omega) e2⟩, Nat.le_trans L.nx k.1⟩
theorem eq_ic {t a : TypeId} {i j : TI} {k k' : IntKind} {m n : Int} {κ : V → Prop} {e : Bool} (ht : (mkX Tryz.prog).tt.get t = some i) (hk : i.k = .ifc e) (ha : (mkX Tryz.prog).tt.get a = some j) (hj : j.k = .int k') : pw.eq (mkX Tryz.prog) t (.ic a (.i k m)) (.ic a (.i k n)) κ = κ (.b (decide (m = n))) := by
 simp only [pw, bin, ti_some _ ht, eqOp, hk, Nat.beq_refl, cond_true, ti_some _ ha, hj, if_true, oP]
theorem mi_i {t : TypeId} {i : TI} {v : V} {κ : V → Prop} (ht : (mkX Tryz.prog).tt.get t = some i) (hk : ∀ b, i.k ≠ .ifc b) : pw.mi (mkX Tryz.prog) t v κ = κ (.ic t v) := by
 have e : pw.mi (mkX Tryz.prog) t v κ = oP ((mkX Tryz.prog).tt.get t) fun i => match i.k with
  | .ifc _ => False
  | _ => κ (.ic t v) := rfl
 rw [e, ht]
 cases hk' : i.k with
 | ifc b => exact absurd hk' (hk b)
 | _ => simp only [oP, hk']
theorem toerr_ok {n : Nat} (hn : 3 ≤ n) {a b : Bs} {u w : V} {h : H} {K : V → H → Prop} (L : Low h) (hl : b.length ≤ 1099511627776) (k : ∀ h' r, But h h' none → K (.ic 191 (.p r 0)) h') : Ok Tryz.prog n 131 [.s a, .s b, u, w, .ic 188 (.i .i64 2)] h K := by
 obtain ⟨n, rfl⟩ := Nat.exists_eq_add_of_le' hn
 refine Ok.bd (K131 fun hbd => ?_)
 unfold F131
 rw [mi_i tt188 (by simp), eq_ic tt142 rfl tt188 rfl]
 simp (disch := omega) only [ws, dec_t]
 refine K151 fun hbd => ?_
 unfold F151
 show Ok Tryz.prog (n + 1) 175 [.s b] h fun v h' => KeepH h h' ∧ _
 refine clone_ok (by omega) hl fun h1 f1 => ?_
 refine ⟨fun q hq => f1.2.1 q hq (by simp), ?_⟩
 obtain ⟨t, r, ty, wo, e⟩ := L.es
 rw [l1_a e rfl]
 refine bl_a (v := .a [.s a, .s b, .ic t (.p r 0)]) ?_ ?_
 ·unfold blW
  rw [ti_some _ tt207]
  rfl
 refine bx_a rfl fun r2 h2 g2 f2 _ _ => ?_
 dsimp only
 rw [mi_i tt191 (by simp)]
 intro _
 exact k h2 r2 (f1.trans f2)
theorem low_all : (List.range 256).all (fun n => decide (dig (UInt8.ofNat n) < 16 → ¬ n = 95 ∧ ((48 ≤ n ∧ n ≤ 57 ∧ n - 48 = dig (UInt8.ofNat n)) ∨ (¬ (48 ≤ n ∧ n ≤ 57) ∧ 97 ≤ Nat.lor n 32 ∧ Nat.lor n 32 ≤ 102 ∧ Nat.lor n 32 - 97 + 10 = dig (UInt8.ofNat n))))) = true := by decide +kernel
theorem low_dig {b : UInt8} (h : dig b < 16) : ¬ b.toNat = 95 ∧ ((48 ≤ b.toNat ∧ b.toNat ≤ 57 ∧ b.toNat - 48 = dig b) ∨ (¬ (48 ≤ b.toNat ∧ b.toNat ≤ 57) ∧ 97 ≤ Nat.lor b.toNat 32 ∧ Nat.lor b.toNat 32 ≤ 102 ∧ Nat.lor b.toNat 32 - 97 + 10 = dig b)) := by
 have := List.all_eq_true.1 low_all b.toNat (List.mem_range.2 b.toNat_lt)
 simp only [decide_eq_true_eq] at this
 have e : UInt8.ofNat b.toNat = b := by simp
 rw [e] at this
 exact this h
theorem or_all : (List.range 256).all (fun n => decide (IntKind.u8.wrap (BitVec.ofInt 8 (n : Int) ||| BitVec.ofInt 8 32).toNat = ((Nat.lor n 32 : Nat) : Int))) = true := by decide +kernel
theorem or_32 {t : TypeId} {b : UInt8} {κ : V → Prop} : pw.or (mkX Tryz.prog) t (.i .u8 b.toNat) (.i .u8 32) κ = κ (.i .u8 (Nat.lor b.toNat 32 : Nat)) := by
 rw [or_i]
 have := List.all_eq_true.1 or_all b.toNat (List.mem_range.2 b.toNat_lt)
 simp only [decide_eq_true_eq] at this
 rw [show IntKind.u8.bits = 8 from rfl, this]
theorem lower_ok {n : Nat} (hn : 1 ≤ n) {b : UInt8} {h : H} {K : V → H → Prop} (k : K (.i .u8 (Nat.lor b.toNat 32 : Nat)) h) : Ok Tryz.prog n 173 [.i .u8 b.toNat] h K := by
 obtain ⟨n, rfl⟩ := Nat.exists_eq_add_of_le' hn
 refine Ok.bd (K173 fun hbd => ?_)
 unfold F173
 rw [or_32]
 exact fun _ => k
theorem mu_u64 {t : TypeId} {m n : Int} {κ : V → Prop} (h : 0 ≤ m * n ∧ m * n < 18446744073709551616) : pw.mu (mkX Tryz.prog) t (.i .u64 m) (.i .u64 n) κ = κ (.i .u64 (m * n)) := by
 rw [mu_i, wrap_u64', Int.emod_eq_of_lt h.1 h.2]
theorem digs_ok {n base : Nat} {d : Bs} {v : V} {cut : Int} {h : H} {K : V → H → Prop} (hb : base = 10 ∨ base = 16) (hc : 4294967296 ≤ cut) (hd : ∀ b ∈ d, dig b < 16) (hl : d.length ≤ 8) (hv : BytesAt h v d)
  (k : K (match numV base 0 d with | some z => .t [.i .u64 z, .ni] | none => .t [.i .u64 0, .ic 188 (.i .i64 2)]) h) :
  ∀ (rest : Bs) (i acc fuel : Nat), d.drop i = rest → rest.length < fuel → acc < base ^ i → i ≤ d.length → numV base 0 d = numV base acc rest →
   F150_67 pw (mkX Tryz.prog) (Ok Tryz.prog (n + 1)) K fuel (.i .i64 base) (.b false) (.s d) (.i .u64 cut) (.i .u64 4294967295) (.b false) (.i .u64 acc) v (.i .i64 d.length) (.i .i64 i) h := by
 intro rest
 induction rest with
 | nil =>
  intro i acc fuel hr hf ha hi hn
  obtain ⟨m, rfl⟩ : ∃ m, fuel = m + 1 := ⟨fuel - 1, by simp at hf; omega⟩
  rw [S150_67]
  have : d.length ≤ i := List.drop_eq_nil_iff.1 hr
  have d0 : decide ((i : Int) < (d.length : Int)) = false := decide_eq_false (by omega)
  simp (disch := omega) only [ws, d0, F150_42, F150_46]
  rw [hn] at k
  exact k
 | cons b rest ih =>
  intro i acc fuel hr hf ha hi hn
  obtain ⟨m, rfl⟩ : ∃ m, fuel = m + 1 := ⟨fuel - 1, by simp at hf; omega⟩
  rw [S150_67]
  have hlt : i < d.length := by
   rcases Nat.lt_or_ge i d.length with h | h
   ·exact h
   ·rw [List.drop_eq_nil_of_le h] at hr; cases hr
  have hbi : d.getD i 0 = b := by
   rw [List.drop_eq_getElem_cons hlt] at hr
   rw [List.getD_eq_getElem?_getD, List.getElem?_eq_getElem hlt, Option.getD_some]
   exact (List.cons.inj hr).1
  have hmem : b ∈ d := by
   have := List.mem_of_mem_drop (i := i) (l := d) (a := b) (by rw [hr]; exact List.mem_cons_self ..)
   exact this
  have hr2 : d.drop (i + 1) = rest := by
   rw [List.drop_eq_getElem_cons hlt] at hr
   exact (List.cons.inj hr).2
  obtain ⟨h95, hcase⟩ := low_dig (hd b hmem)
  have d0 : decide ((i : Int) < (d.length : Int)) = true := decide_eq_true (by omega)
  simp (disch := omega) only [ws, d0, F150_79]
  rw [bytes_get hv rfl hlt, hbi]
  have hb2 : 2 ≤ base ∧ base ≤ 16 := by omega
  have hp : base ^ (i + 1) ≤ 4294967296 := by
   have h1 : base ^ (i + 1) ≤ 16 ^ (i + 1) := Nat.pow_le_pow_left hb2.2 _
   have h2 : 16 ^ (i + 1) ≤ 16 ^ 8 := Nat.pow_le_pow_right (by decide) (by omega)
   have h3 : (16 : Nat) ^ 8 = 4294967296 := by decide
   omega
  have hps : base ^ (i + 1) = base ^ i * base := Nat.pow_succ ..
  have hacc : acc * base + base ≤ base ^ (i + 1) := by
   rw [hps]
   have := Nat.mul_le_mul_right base (show acc + 1 ≤ base ^ i from ha)
   rw [Nat.add_mul] at this
   omega
  have ha2 : acc ≤ acc * base := Nat.le_mul_of_pos_right _ (by omega)
  have fin : F150_107 pw (mkX Tryz.prog) (Ok Tryz.prog (n + 1)) K (F150_67 pw (mkX Tryz.prog) (Ok Tryz.prog (n + 1)) K m) (.i .i64 base) (.b false) (.s d) (.i .u64 cut) (.i .u64 4294967295) (.b false) (.i .u64 acc) (.i .u8 (dig b : Nat)) v (.i .i64 d.length) (.i .i64 i) h := by
   have hw : IntKind.u8.wrap (base : Int) = base := by rw [wrap_u8']; omega
   simp only [F150_107, ci_i, hw, ge_i]
   by_cases hlt2 : dig b < base
   ·have d1 : decide ((base : Int) ≤ ((dig b : Nat) : Int)) = false := decide_eq_false (by omega)
    have d2 : decide (cut ≤ (acc : Int)) = false := decide_eq_false (by omega)
    have em : ((acc : Int) * (base : Int)) = ((acc * base : Nat) : Int) := by simp
    have w1 : IntKind.u64.wrap (base : Int) = base := by rw [wrap_u64']; omega
    have w2 : IntKind.u64.wrap ((dig b : Nat) : Int) = (dig b : Nat) := by rw [wrap_u64']; omega
    simp only [d1, cd_f, F150_119, ge_i, d2, F150_131, ci_i, w1, w2]
    rw [mu_u64 (by rw [em]; omega), em]
    have w3 : IntKind.u64.wrap (((acc * base : Nat) : Int) + ((dig b : Nat) : Int)) = ((acc * base + dig b : Nat) : Int) := by rw [wrap_u64']; omega
    have d3 : decide (((acc * base + dig b : Nat) : Int) < ((acc * base : Nat) : Int)) = false := decide_eq_false (by omega)
    have d4 : decide ((4294967295 : Int) < ((acc * base + dig b : Nat) : Int)) = false := decide_eq_false (by omega)
    simp only [ad_i, w3, lt_i, d3, g0_f, gt_i, d4, pk_f, cd_f, F150_153, F150_90]
    have w4 : IntKind.i64.wrap ((i : Int) + 1) = ((i + 1 : Nat) : Int) := by rw [wrap64_in (by omega)]; omega
    rw [w4]
    refine ih (i + 1) (acc * base + dig b) m hr2 (by simp at hf; omega) (by omega) hlt ?_
    rw [hn]
    simp only [numV, if_pos hlt2]
   ·have d1 : decide ((base : Int) ≤ ((dig b : Nat) : Int)) = true := decide_eq_true (by omega)
    simp only [d1, cd_t]
    rw [mi_i tt188 (by simp)]
    rw [hn] at k
    simp only [numV, if_neg hlt2] at k
    exact k
  have e95 : decide ((b.toNat : Int) = 95) = false := decide_eq_false (by omega)
  simp only [eq_i, e95, g1_f, pk_f, cd_f, le_i]
  rcases hcase with ⟨c1, c2, c3⟩ | ⟨c1, c2, c3, c4⟩
  ·have d1 : decide ((48 : Int) ≤ (b.toNat : Int)) = true := decide_eq_true (by omega)
   have d2 : decide ((b.toNat : Int) ≤ 57) = true := decide_eq_true (by omega)
   simp only [d1, g1_t, le_i, d2, pk_t, cd_t, sb_i]
   have w : IntKind.u8.wrap ((b.toNat : Int) - 48) = ((dig b : Nat) : Int) := by rw [wrap_u8', ← c3]; have := b.toNat_lt; omega
   rw [w]
   exact fin
  ·have lw : IntKind.u8.wrap (((Nat.lor b.toNat 32 : Nat) : Int) - 97) = ((Nat.lor b.toNat 32 - 97 : Nat) : Int) := by rw [wrap_u8']; omega
   have lw2 : IntKind.u8.wrap (((Nat.lor b.toNat 32 - 97 : Nat) : Int) + 10) = ((dig b : Nat) : Int) := by rw [wrap_u8']; omega
   have l1 : decide ((97 : Int) ≤ ((Nat.lor b.toNat 32 : Nat) : Int)) = true := decide_eq_true (by omega)
   have l2 : decide (((Nat.lor b.toNat 32 : Nat) : Int) ≤ 122) = true := decide_eq_true (by omega)
   have tail : Ok Tryz.prog (n + 1) 173 [.i .u8 b.toNat] h fun v216 h216 =>
    pw.le (mkX Tryz.prog) 5 (.i .u8 97) v216 fun v217 =>
     pw.g1 v217 (fun κ => κ (.i .u8 b.toNat) h216) h216 fun v220 h220 =>
      pw.g1 v217 (fun κ => Ok Tryz.prog (n + 1) 173 [v220] h220 fun v221 h221 => κ v221 h221) h220 fun v222 h222 =>
       pw.g1 v217 (fun κ => pw.le (mkX Tryz.prog) 5 v222 (.i .u8 122) fun v223 => κ v223 h222) h222 fun v224 h224 =>
        pw.pk v217 v224 (.b false) fun v225 =>
         pw.cd v225
          (Ok Tryz.prog (n + 1) 173 [.i .u8 b.toNat] h224 fun v228 h228 =>
           pw.sb (mkX Tryz.prog) 5 v228 (.i .u8 97) fun v229 =>
            pw.ad (mkX Tryz.prog) 5 v229 (.i .u8 10) fun v230 =>
             F150_107 pw (mkX Tryz.prog) (Ok Tryz.prog (n + 1)) K (F150_67 pw (mkX Tryz.prog) (Ok Tryz.prog (n + 1)) K m) (.i .i64 base) (.b false) (.s d) (.i .u64 cut) (.i .u64 4294967295) (.b false) (.i .u64 acc) v230 v (.i .i64 d.length) (.i .i64 i) h228)
          (pw.mi (mkX Tryz.prog) 188 (.i .i64 2) fun v232 => K (.t [.i .u64 0, v232]) h224) := by
    refine lower_ok (by omega) ?_
    simp only [le_i, l1, g1_t]
    refine lower_ok (by omega) ?_
    simp only [le_i, l2, pk_t, cd_t]
    refine lower_ok (by omega) ?_
    simp only [sb_i, lw, ad_i, lw2]
    exact fin
   by_cases hb48 : 48 ≤ b.toNat
   ·have d1 : decide ((48 : Int) ≤ (b.toNat : Int)) = true := decide_eq_true (by omega)
    have d2 : decide ((b.toNat : Int) ≤ 57) = false := decide_eq_false (by omega)
    simp only [d1, g1_t, le_i, d2, pk_t, cd_f, cf_k]
    exact tail
   ·have d1 : decide ((48 : Int) ≤ (b.toNat : Int)) = false := decide_eq_false (by omega)
    simp only [d1, g1_f, pk_f, cd_f, cf_k]
    exact tail
theorem cb_s {h : H} {l : Bs} {κ : V → H → Prop} : pw.cb (mkX Tryz.prog) 9 60 (.s l) h κ = κ (.sl h.next 0 l.length l.length true) ⟨h.next + 1, h.mem.put h.next (some (.c (u8s l) 5 true))⟩ := by
 simp only [pw]
 rw [ti_some _ tt9, ti_some _ tt60]
 simp only
 rw [ti_some _ tt5]
 rfl
theorem pui_ok {n base : Nat} (hn : 2 ≤ n) {d : Bs} {h : H} {K : V → H → Prop} (hb : base = 10 ∨ base = 16) (hd : ∀ b ∈ d, dig b < 16) (h1 : 1 ≤ d.length) (hl : d.length ≤ 8)
  (k : ∀ h', But h h' none → K (match numV base 0 d with | some z => .t [.i .u64 z, .ni] | none => .t [.i .u64 0, .ic 188 (.i .i64 2)]) h') : Ok Tryz.prog n 150 [.s d, .i .i64 base, .i .i64 32] h K := by
 obtain ⟨n, rfl⟩ := Nat.exists_eq_add_of_le' hn
 refine Ok.bd (K150 fun hbd => ?_)
 unfold F150
 have hne : (d == ([] : Bs)) = false := by
  cases d with
  | nil => simp at h1
  | cons a d => rfl
 have b1 : decide ((base : Int) = 0) = false := decide_eq_false (by omega)
 have b2 : decide ((2 : Int) ≤ (base : Int)) = true := decide_eq_true (by omega)
 have b3 : decide ((base : Int) ≤ 36) = true := decide_eq_true (by omega)
 have b4 : decide ((32 : Int) = 0) = false := rfl
 have b5 : decide ((32 : Int) < 0) = false := rfl
 have b6 : decide ((64 : Int) < 32) = false := rfl
 rw [eq_s, hne]
 simp only [cd_f, F150_6, eq_i, b1, le_i, b2, g1_t, b3, pk_t, cd_t, F150_15, b4, lt_i, b5, g0_f, gt_i, b6, pk_f]
 have go : ∀ cut : Int, 4294967296 ≤ cut → F150_28 pw (mkX Tryz.prog) (Ok Tryz.prog (n + 1)) (fun v h' => Bd h' → K v h') (.s d) (.i .i64 base) (.i .i64 32) (.b false) (.s d) (.i .u64 cut) h := by
  intro cut hc
  unfold F150_28
  have s1 : ∀ κ : V → Prop, pw.sl (mkX Tryz.prog) 177 (.i .u64 1) (.i .u64 32) κ = κ (.i .u64 4294967296) := fun κ => by
   rw [sl_i (by decide)]
   rfl
  have s2 : ∀ κ : V → Prop, pw.sb (mkX Tryz.prog) 177 (.i .u64 4294967296) (.i .u64 1) κ = κ (.i .u64 4294967295) := fun κ => by
   rw [sb_i]
   rfl
  have s3 : IntKind.u64.wrap 32 = 32 := rfl
  simp only [ci_i, s3, s1, s2]
  rw [cb_s, ls_sl tt60 rfl]
  have hv : BytesAt ⟨h.next + 1, h.mem.put h.next (some (.c (u8s d) 5 true))⟩ (.sl h.next 0 d.length d.length true) d := by
   refine Vec.bytes (el := 5) (n := d.length) ⟨by simp [u8s], .inr ⟨h.next, d.length, true, u8s d, rfl, ?_, Nat.le_refl _, by simp [u8s], by rw [Nat.mul_one, ← u8s_len d, List.take_length]⟩⟩
   show (h.mem.put h.next _).get h.next = _
   rw [T.get_put, if_pos rfl]
  refine digs_ok hb hc hd hl hv ?_ d 0 0 100000 rfl (by omega) (by simp) (by omega) rfl
  intro _
  exact k _ (But.new _ _ _)
 rcases hb with rfl | rfl
 ·have e : decide (((10 : Nat) : Int) = 10) = true := rfl
  simp only [F150_21, eq_i, e, cd_t]
  exact go _ (by decide)
 ·have e : decide (((16 : Nat) : Int) = 10) = false := rfl
  have e2 : decide (((16 : Nat) : Int) = 16) = true := rfl
  simp only [F150_21, eq_i, e, e2, cd_t, cd_f]
  exact go _ (by decide)
theorem pu_ok {n base : Nat} (hn : 4 ≤ n) {d : Bs} {h : H} {K : V → H → Prop} (L : Low h) (hb : base = 10 ∨ base = 16) (hd : ∀ b ∈ d, dig b < 16) (h1 : 1 ≤ d.length) (hl : d.length ≤ 8)
  (k : ∀ h' e, But h h' none → (numV base 0 d = none → ∃ r, e = .ic 191 (.p r 0)) → (numV base 0 d ≠ none → e = .ni) → K (.t [.i .u64 ((numV base 0 d).getD 0 : Nat), e]) h') : Ok Tryz.prog n 188 [.s d, .i .i64 base, .i .i64 32] h K := by
 obtain ⟨n, rfl⟩ := Nat.exists_eq_add_of_le' hn
 refine Ok.bd (K188 fun hbd => ?_)
 unfold F188
 simp only [cf_k]
 refine pui_ok (by omega) hb hd h1 hl fun h2 f2 => ?_
 cases hv : numV base 0 d with
 | some z =>
  simp only [ex_t, List.getElem?_cons_zero, List.getElem?_cons_succ, oP_some]
  rw [bn_nn tt142 rfl]
  simp only [cd_f, F188_15]
  intro _
  have := k h2 .ni f2 (fun e => by rw [hv] at e; cases e) (fun _ => rfl)
  rw [hv] at this
  exact this
 | none =>
  simp only [ex_t, List.getElem?_cons_zero, List.getElem?_cons_succ, oP_some]
  rw [bn_in tt142 rfl]
  simp only [cd_t, c188]
  refine toerr_ok (by omega) (L.keep f2 (fun r e => by cases e)) (by omega) fun h3 r f3 => ?_
  intro _
  have := k h3 (.ic 191 (.p r 0)) (f2.trans f3) (fun _ => ⟨r, rfl⟩) (fun e => absurd hv e)
  rw [hv] at this
  exact this
def hexs : Bs := [48, 49, 50, 51, 52, 53, 54, 55, 56, 57, 97, 98, 99, 100, 101, 102, 65, 66, 67, 68, 69, 70]
theorem hex_all : (List.range 256).all (fun n => decide ((0 ≤ Lib.indexByte hexs (UInt8.ofNat n)) ↔ dig (UInt8.ofNat n) < 16)) = true := by decide +kernel
theorem hex_dig (b : UInt8) : decide ((0 : Int) ≤ Lib.indexByte hexs b) = decide (dig b < 16) := by
 have := List.all_eq_true.1 hex_all b.toNat (List.mem_range.2 b.toNat_lt)
 simp only [decide_eq_true_eq] at this
 have e : UInt8.ofNat b.toNat = b := by simp
 rw [e] at this
 exact decide_eq_decide.2 this
theorem hex_hi : ∀ b ∈ hexs, b.toNat < 128 := by decide
theorem enc_lo {c : Nat} (h : c < 128) : (Utf8.encode (c : Int)).data.toList = [UInt8.ofNat c] := by
 have hv : Utf8.valid (c : Int) = true := by
  unfold Utf8.valid
  simp; omega
 unfold Utf8.encode
 simp only [hv, if_true, Int.toNat_natCast]
 rw [if_pos (by omega)]
theorem enc_hi {c : Nat} (h : 128 ≤ c) : ∃ a b r, (Utf8.encode (c : Int)).data.toList = a :: b :: r ∧ 128 ≤ a.toNat ∧ r.length ≤ 2 := by
 unfold Utf8.encode
 generalize hc : (if Utf8.valid (c : Int) = true then (c : Int).toNat else Utf8.runeError) = d
 have hd : 128 ≤ d ∧ d ≤ 1114111 := by
  rw [← hc]
  by_cases hv : Utf8.valid (c : Int) = true
  ·rw [if_pos hv, Int.toNat_natCast]
   unfold Utf8.valid at hv
   simp at hv
   omega
  ·rw [if_neg hv]; decide
 simp only
 rw [if_neg (by omega)]
 by_cases h1 : d < 2048
 ·rw [if_pos (by omega)]
  exact ⟨_, _, _, rfl, by simp; omega, by simp⟩
 ·rw [if_neg (by omega)]
  by_cases h2 : d < 65536
  ·rw [if_pos (by omega)]
   exact ⟨_, _, _, rfl, by simp; omega, by simp⟩
  ·rw [if_neg (by omega)]
   exact ⟨_, _, _, rfl, by simp; omega, by simp⟩
theorem index_no {c : UInt8} {p : Bs} : ∀ {l : Bs}, c ∉ l → Lib.index l (c :: p) = -1
 | [], _ => rfl
 | a :: l, h => by
  have ih := index_no (p := p) fun hm => h (List.mem_cons_of_mem a hm)
  have : (c :: p).isPrefixOf (a :: l) = false := by
   simp only [List.isPrefixOf]
   have : (c == a) = false := by
    simp
    intro e
    exact h (e ▸ List.mem_cons_self ..)
   rw [this]; rfl
  simp only [Lib.index, this, ih]
  rfl
theorem indexByte_no {c : UInt8} : ∀ {l : Bs}, c ∉ l → Lib.indexByte l c = -1 := by
 intro l h
 rw [indexByte_cut]
 cases hc : cut1 c l with
 | none => rfl
 | some p =>
  obtain ⟨a, b⟩ := p
  have := (cut1_some hc).1
  exact absurd (by rw [this]; simp) h
theorem mlX : (mkX Tryz.prog).ml = some 2 := by kernel_rfl
theorem is_ok {n : Nat} {l p : Bs} {m : Int} {ty : TypeId} {w : Bool} {h : H} {K : V → H → Prop} (hg : h.mem.get 2 = some (.c [.i .i64 m] ty w)) (h2 : 2 ≤ p.length) (hl : l.length < 4294967281) (hm : (p.length : Int) ≤ m) (k : K (.i .i64 (Lib.index l p)) h) : Ok Tryz.prog (n + 1) 160 [.s l, .s p] h K := by
 intro hbd
 refine ⟨.i .i64 (Lib.index l p), h, ?_, hbd, Nat.le_refl _, k⟩
 have hn : fnOk (mkX Tryz.prog) Tryz.f160 = false := by kernel_rfl
 have hb : Tryz.f160.body = none := by kernel_rfl
 have he : (!(Tryz.f160.name == "runtime.NumGoroutine") && (Extern.findNext Tryz.f160).isNone) = true := by kernel_rfl
 have nm : Tryz.f160.name = "internal/bytealg.IndexString" := by kernel_rfl
 have e1 : extV Tryz.f160.name [.s l, .s p] = none := by rw [nm]; rfl
 have e2 : extM (mkX Tryz.prog).ml Tryz.f160.name [.s l, .s p] h.mem.get = some (.i .i64 (Lib.index l p)) := by
  rw [nm, mlX]
  show (match h.mem.get 2 with | some (.c (.i .i64 m :: _) _ _) => bif Nat.blt 2 16 && Nat.ble 2 p.length && Nat.blt l.length 4294967281 && decide ((p.length : Int) ≤ m) then some (V.i .i64 (Lib.index l p)) else none | _ => none) = _
  rw [hg]
  simp only [show Nat.blt 2 16 = true from rfl, Nat.ble_eq_true_of_le h2, show Nat.blt l.length 4294967281 = true from Nat.ble_eq_true_of_le hl, decide_eq_true hm, Bool.and_self, cond_true]
 simp only [sem, ftW_of Tryz.func160, hn, cond_false, extS, hb, he, cond_true, e1, e2]
theorem idxn_ok {n : Nat} (hn : 3 ≤ n) {l r : Bs} {a b : UInt8} {h : H} {K : V → H → Prop} (L : Low h) (ha : a ∉ l) (hr : r.length ≤ 2) (hl : l.length ≤ 64) (hl2 : 8 ≤ l.length) (k : K (.i .i64 (-1)) h) : Ok Tryz.prog n 137 [.s l, .s (a :: b :: r)] h K := by
 obtain ⟨n, rfl⟩ := Nat.exists_eq_add_of_le' hn
 refine Ok.bd (K137 fun hbd => ?_)
 unfold F137
 have hp : (a :: b :: r).length = r.length + 2 := rfl
 have hne : ((a :: b :: r) == l) = false := by
  cases e : ((a :: b :: r) == l) with
  | false => rfl
  | true =>
   have := eq_of_beq e
   exact absurd (by rw [← this]; exact List.mem_cons_self ..) ha
 have d1 : decide (((r.length + 2 : Nat) : Int) = 0) = false := decide_eq_false (by omega)
 have d2 : decide (((r.length + 2 : Nat) : Int) = 1) = false := decide_eq_false (by omega)
 have d3 : decide ((l.length : Int) ≤ ((r.length + 2 : Nat) : Int)) = false := decide_eq_false (by omega)
 have d4 : decide ((l.length : Int) ≤ 64) = true := decide_eq_true (by omega)
 rw [lg_s tt9 rfl, hp]
 simp only [eq_i, d1, g0_f, eq_s, hne, pk_f, cd_f, d2]
 rw [lg_s tt9 rfl]
 simp only [ge_i, d3, cd_f]
 obtain ⟨m, ty, w, hg⟩ := L.ml
 rw [l1_a hg rfl]
 by_cases hm : ((r.length + 2 : Nat) : Int) ≤ m
 ·simp only [le_i, decide_eq_true hm, g1_t]
  rw [lg_s tt9 rfl]
  simp only [le_i, d4, pk_t, cd_t, cf_k]
  refine is_ok hg (by simp) (by omega) (by rw [hp]; exact hm) ?_
  rw [index_no ha]
  exact fun _ => k
 ·simp only [le_i, decide_eq_false hm, g1_f, pk_f, cd_f]
  unfold F137_7
  have i0 : ∀ κ : V → Prop, pw.ix (mkX Tryz.prog) 9 (.s (a :: b :: r)) (.i .i64 0) κ = κ (.i .u8 a.toNat) := fun κ => ix_s tt9 rfl (n := 0) rfl
  have i1 : ∀ κ : V → Prop, pw.ix (mkX Tryz.prog) 9 (.s (a :: b :: r)) (.i .i64 1) κ = κ (.i .u8 b.toNat) := fun κ => ix_s tt9 rfl (n := 1) rfl
  rw [i0, i1, lg_s tt9 rfl]
  have w1 : IntKind.i64.wrap ((l.length : Int) - ((r.length + 2 : Nat) : Int)) = ((l.length - (r.length + 2) : Nat) : Int) := by rw [wrap64_in (by omega)]; omega
  have w2 : IntKind.i64.wrap (((l.length - (r.length + 2) : Nat) : Int) + 1) = ((l.length - (r.length + 2) + 1 : Nat) : Int) := by rw [wrap64_in (by omega)]; omega
  simp only [sb_i, w1, ad_i, w2]
  rw [show (100000 : Nat) = 99999 + 1 from rfl, S137_27]
  have d5 : decide ((0 : Int) < ((l.length - (r.length + 2) + 1 : Nat) : Int)) = true := decide_eq_true (by omega)
  simp only [lt_i, d5, cd_t]
  unfold F137_36
  obtain ⟨c, l', hl'⟩ : ∃ c l', l = c :: l' := by
   cases l with
   | nil => simp at hl2
   | cons c l' => exact ⟨c, l', rfl⟩
  have j0 : ∀ κ : V → Prop, pw.ix (mkX Tryz.prog) 9 (.s l) (.i .i64 0) κ = κ (.i .u8 c.toNat) := fun κ => ix_s tt9 rfl (n := 0) (by rw [hl']; rfl)
  rw [j0]
  have hca : c ≠ a := fun e => ha (by rw [hl', e]; exact List.mem_cons_self ..)
  have d6 : decide ((c.toNat : Int) = (a.toNat : Int)) = false := decide_eq_false fun e => hca (UInt8.toNat_inj.1 (by omega))
  have w3 : IntKind.i64.wrap ((0 : Int) + 1) = ((1 : Nat) : Int) := rfl
  simp only [ne_i, d6, Bool.not_false, cd_t, ad_i, w3]
  rw [sc_s2 tt9 rfl (by omega) (by omega)]
  simp only [cf_k]
  refine K159 fun hbd2 => ?_
  unfold F159
  simp only [cf_k]
  refine ib_ok ?_
  rw [indexByte_no fun hm2 => ha (List.mem_of_mem_drop (List.mem_of_mem_take hm2))]
  have d7 : decide ((-1 : Int) < 0) = true := rfl
  simp only [lt_i, d7, cd_t]
  exact fun _ => k
def hexC (c : Nat) : Bool := decide (c < 128 ∧ dig (UInt8.ofNat c) < 16)
theorem cont_ok {n : Nat} (hn : 5 ≤ n) {c : Nat} {h : H} {K : V → H → Prop} (L : Low h) (k : K (.b (hexC c)) h) : Ok Tryz.prog n 112 [.s hexs, .s (Utf8.encode (c : Int)).data.toList] h K := by
 obtain ⟨n, rfl⟩ := Nat.exists_eq_add_of_le' hn
 refine Ok.bd (K112 fun hbd => ?_)
 unfold F112
 simp only [cf_k]
 refine K139 fun hbd => ?_
 unfold F139
 simp only [cf_k]
 by_cases hc : c < 128
 ·rw [enc_lo hc]
  refine idx1_ok (by omega) ?_
  simp only [ge_i, hex_dig]
  have : hexC c = decide (dig (UInt8.ofNat c) < 16) := by
   unfold hexC
   exact decide_eq_decide.2 ⟨fun h => h.2, fun h => ⟨hc, h⟩⟩
  rw [this] at k
  exact fun _ => k
 ·obtain ⟨a, b, r, e, ha, hr⟩ := enc_hi (show 128 ≤ c by omega)
  rw [e]
  refine idxn_ok (by omega) L (fun hm => ?_) hr (by decide) (by decide) ?_
  ·have := hex_hi a hm
   omega
  ·have d : decide ((0 : Int) ≤ -1) = false := rfl
   simp only [ge_i, d]
   have : hexC c = false := decide_eq_false fun h => hc h.1
   rw [this] at k
   exact fun _ => k
end Go.Proofs.YtbkhielalbbopaaGreatDoor.Wb

set_option maxRecDepth 100000
namespace Go.Am.Xm
theorem get_at {s : Bs} {p : Nat} {b : UInt8} (h : s[p]? = some b) : (⟨⟨s⟩⟩ : ByteArray).get! (p + 0) = b := by
 show (⟨s⟩ : Array UInt8)[p + 0]! = b
 rw [Nat.add_zero]
 simp [h]
theorem dec_lo {s : Bs} {p : Nat} {b : UInt8} (h : s[p]? = some b) (hb : b.toNat < 128) : Utf8.decode ⟨⟨s⟩⟩ p = (b.toNat, 1) := by
 unfold Utf8.decode
 simp only [get_at h]
 rw [if_pos (by omega)]
theorem dec_hi {s : Bs} {p : Nat} {b : UInt8} (h : s[p]? = some b) (hb : 128 ≤ b.toNat) : 128 ≤ (Utf8.decode ⟨⟨s⟩⟩ p).1 ∧ 1 ≤ (Utf8.decode ⟨⟨s⟩⟩ p).2 := by
 unfold Utf8.decode
 simp only [get_at h]
 rw [if_neg (by omega)]
 have hr : Utf8.runeError = 65533 := rfl
 split
 ·split
  ·exact ⟨by omega, by simp⟩
  ·exact ⟨by rw [hr]; decide, by decide⟩
 ·split
  ·split
   ·rename_i h2
    rw [Bool.and_eq_true, decide_eq_true_eq] at h2
    exact ⟨by omega, by simp⟩
   ·exact ⟨by rw [hr]; decide, by decide⟩
  ·split
   ·split
    ·rename_i h2
     rw [Bool.and_eq_true, decide_eq_true_eq] at h2
     exact ⟨by omega, by simp⟩
    ·exact ⟨by rw [hr]; decide, by decide⟩
   ·exact ⟨by rw [hr]; decide, by decide⟩
theorem dig_lo : ∀ b : UInt8, dig b < 16 → b.toNat < 128 := by
 intro b h
 unfold dig at h
 split at h
 ·omega
 ·split at h
  ·omega
  ·split at h
   ·omega
   ·omega
theorem numV_hex {base : Nat} (hb : base ≤ 16) : ∀ {l : Bs} {n : Nat}, (¬ ∀ b ∈ l, dig b < 16) → numV base n l = none
 | [], n, h => absurd (fun b hb => absurd hb List.not_mem_nil) h
 | b :: l, n, h => by
  simp only [numV]
  by_cases h1 : dig b < base
  ·rw [if_pos h1]
   refine numV_hex hb fun h2 => h fun c hc => ?_
   rcases List.mem_cons.1 hc with rfl | hc
   ·omega
   ·exact h2 c hc
  ·rw [if_neg h1]
end Go.Am.Xm
namespace Go.Proofs.YtbkhielalbbopaaGreatDoor.Wb
open Go Go.Am Go.Am.Xm
theorem mayN_eq (z : Nat) : mayN z = (!decide ((1114111 : Int) < (z : Int)) && (valC z && mayC z)) := by
 have e1 : Nat.ble 32 z = decide (32 ≤ z) := by rw [Bool.eq_iff_iff]; simp
 have e2 : Nat.ble z 1114111 = decide (z ≤ 1114111) := by rw [Bool.eq_iff_iff]; simp
 have e3 : Nat.blt z 55296 = decide (z < 55296) := by rw [Bool.eq_iff_iff]; simp [Nat.blt]; omega
 have e4 : Nat.blt 57343 z = decide (57343 < z) := by rw [Bool.eq_iff_iff]; simp [Nat.blt]; omega
 have e5 : ∀ k, Nat.beq z k = decide (z = k) := fun k => by rw [Bool.eq_iff_iff]; simp
 unfold mayN valC mayC
 rw [e1, e2, e3, e4, e5, e5, e5, Bool.eq_iff_iff]
 simp only [Bool.or_eq_true, Bool.and_eq_true, decide_eq_true_eq, Bool.not_eq_true', decide_eq_false_iff_not]
 omega
theorem wrap_i32 {z : Int} (h : 0 ≤ z ∧ z ≤ 2147483647) : IntKind.i32.wrap z = z := by
 simp [IntKind.wrap, IntKind.bits, IntKind.signed]
 omega
theorem num11_ok {n base : Nat} {s : Bs} {h : H} {K : V → H → Prop} (L : Low h) (hb : base = 10 ∨ base = 16) (hd : ∀ b ∈ s, dig b < 16)
  (k : ∀ h', But h h' none → K (match numB s base with | some o => .t [.s o, .b true] | none => .t [.s [], .b false]) h') :
  F163_8 pw (mkX Tryz.prog) (Ok Tryz.prog (n + 4)) K (.s s) (.i .i64 base) h := by
 unfold F163_8
 rw [lg_s tt9 rfl]
 by_cases h1 : 1 ≤ s.length ∧ s.length ≤ 8
 ·have d1 : decide ((s.length : Int) < 1) = false := decide_eq_false (by omega)
  have d2 : decide ((8 : Int) < (s.length : Int)) = false := decide_eq_false (by omega)
  simp only [lt_i, d1, g0_f]
  rw [lg_s tt9 rfl]
  simp only [gt_i, d2, pk_f, cd_f]
  unfold F163_11
  simp only [cf_k]
  refine pu_ok (by omega) L hb hd h1.1 h1.2 fun h2 e f2 e1 e2 => ?_
  simp only [ex_t, List.getElem?_cons_zero, List.getElem?_cons_succ, oP_some]
  have hk := k h2 f2
  unfold numB at hk
  rw [if_neg (by omega)] at hk
  cases hv : numV base 0 s with
  | none =>
   obtain ⟨r, rfl⟩ := e1 hv
   rw [hv] at hk
   rw [bn_in tt142 rfl]
   simp only [g0_t, pk_t, cd_t]
   exact hk
  | some z =>
   have := e2 (by rw [hv]; simp)
   subst this
   rw [hv] at hk
   rw [bn_nn tt142 rfl]
   simp only [g0_f, Option.getD_some]
   have m := mayN_eq z
   by_cases hz : (1114111 : Int) < (z : Int)
   ·simp only [gt_i, decide_eq_true hz, pk_t, g0_t, cd_t]
    rw [decide_eq_true hz] at m
    simp only [Bool.not_true, Bool.false_and] at m
    simp only [m] at hk
    exact hk
   ·have w : IntKind.i32.wrap (z : Int) = z := wrap_i32 (by omega)
    simp only [gt_i, decide_eq_false hz, pk_f, g0_f, ci_i, w, cf_k]
    rw [decide_eq_false hz] at m
    simp only [Bool.not_false, Bool.true_and] at m
    refine val_ok (by omega) ?_
    simp only [nt_b]
    cases hval : valC z with
    | false =>
     rw [hval] at m
     simp only [Bool.false_and] at m
     simp only [m] at hk
     simp only [Bool.not_false, pk_t, g0_t, cd_t]
     exact hk
    | true =>
     rw [hval] at m
     simp only [Bool.true_and] at m
     simp only [Bool.not_true, pk_f, g0_f, ci_i, w, cf_k]
     refine may_ok (by omega) ?_
     simp only [nt_b]
     cases hm : mayC z with
     | false =>
      rw [hm] at m
      simp only [m] at hk
      simp only [Bool.not_false, pk_t, cd_t]
      exact hk
     | true =>
      rw [hm] at m
      simp only [m] at hk
      simp only [Bool.not_true, pk_f, cd_f, F163_22, ci_i, w, rs_i]
      exact hk
 ·have hk := k h (But.refl _ _)
  unfold numB at hk
  rw [if_pos (by omega)] at hk
  by_cases h2 : s.length < 1
  ·simp only [lt_i, decide_eq_true (show (s.length : Int) < 1 by omega), g0_t, pk_t, cd_t]
   exact hk
  ·simp only [lt_i, decide_eq_false (show ¬ (s.length : Int) < 1 by omega), g0_f]
   rw [lg_s tt9 rfl]
   simp only [gt_i, decide_eq_true (show (8 : Int) < (s.length : Int) by omega), pk_f, cd_t]
   exact hk
theorem bd_putB {h : H} {r : Nat} {b : B} (hb : Bd h) (hr : r < h.next) : Bd (putB h r b) := by
 intro q c hq
 have hq : (h.mem.put r (some b)).get q = some c := hq
 rw [T.get_put] at hq
 by_cases e : r = q
 ·subst e; exact hr
 ·rw [if_neg e] at hq; exact hb _ _ hq
theorem runes_ok {n base : Nat} {s : Bs} {r : Nat} {h0 : H} {K : V → H → Prop} (L : Low h0) (hr16 : 16 ≤ r) (hb : base = 10 ∨ base = 16)
  (kT : (∀ b ∈ s, dig b < 16) → ∀ h', But h0 h' (some r) → F163_8 pw (mkX Tryz.prog) (Ok Tryz.prog (n + 5)) K (.s s) (.i .i64 base) h')
  (kF : (¬ ∀ b ∈ s, dig b < 16) → ∀ h', But h0 h' (some r) → K (.t [.s [], .b false]) h') :
  ∀ (m p fuel : Nat) (h : H), s.length - p ≤ m → m < fuel → (∀ b ∈ s.take p, dig b < 16) → h.mem.get r = some (.it s p) → r < h.next → But h0 h (some r) → Bd h →
   F163_74 pw (mkX Tryz.prog) (Ok Tryz.prog (n + 5)) K fuel (.s s) (.i .i64 base) (.p r 0) h := by
 intro m
 induction m with
 | zero =>
  intro p fuel h hm hf ht hg hrn f hbd
  obtain ⟨fuel, rfl⟩ : ∃ m, fuel = m + 1 := ⟨fuel - 1, by omega⟩
  rw [S163_74, nx_f hg (by omega)]
  simp only [ex_t, List.getElem?_cons_zero, oP_some, cd_f]
  refine kT (fun b hb => ht b ?_) h f
  rw [List.take_of_length_le (by omega)]
  exact hb
 | succ m ih =>
  intro p fuel h hm hf ht hg hrn f hbd
  obtain ⟨fuel, rfl⟩ : ∃ m, fuel = m + 1 := ⟨fuel - 1, by omega⟩
  rw [S163_74]
  by_cases hp : p < s.length
  ·rw [nx_t hg hp]
   have hk : h.next ≤ (putB h r (.it s (p + (Utf8.decode ⟨⟨s⟩⟩ p).2))).next := Nat.le_refl _
   have f1 : But h (putB h r (.it s (p + (Utf8.decode ⟨⟨s⟩⟩ p).2))) (some r) := by
    refine ⟨Nat.le_refl _, fun q hq hne => ?_, fun hb => ?_⟩
    ·show (h.mem.put r _).get q = _
     rw [T.get_put, if_neg (fun e => hne (by rw [e]))]
    ·exact bd_putB hb hrn
   have f2 := f.trans f1
   have hbd1 := f1.2.2 hbd
   have L1 : Low (putB h r (.it s (p + (Utf8.decode ⟨⟨s⟩⟩ p).2))) := L.keep f2 (fun q e => by cases e; exact hr16)
   simp only [ex_t, List.getElem?_cons_zero, List.getElem?_cons_succ, oP_some, cd_t, F163_80, rs_i, cf_k, c163]
   have hsp : s[p]? = some (s[p]'hp) := List.getElem?_eq_getElem hp
   refine cont_ok (by omega) L1 ?_
   by_cases hlo : (s[p]'hp).toNat < 128
   ·rw [dec_lo hsp hlo]
    by_cases hd : dig (s[p]'hp) < 16
    ·have e : hexC (s[p]'hp).toNat = true := decide_eq_true ⟨hlo, by simpa using hd⟩
     rw [e]
     simp only [nt_b, Bool.not_true, cd_f]
     rw [dec_lo hsp hlo] at f2 hbd1
     refine ih (p + 1) fuel _ (by omega) (by omega) (fun b hb => ?_) ?_ hrn f2 hbd1
     ·rw [List.take_add_one, hsp] at hb
      rcases List.mem_append.1 hb with hb | hb
      ·exact ht b hb
      ·simp at hb
       rw [hb]; exact hd
     ·show (h.mem.put r _).get r = _
      rw [T.get_put, if_pos rfl]
    ·have e : hexC (s[p]'hp).toNat = false := decide_eq_false fun h => hd (by simpa using h.2)
     rw [e]
     simp only [nt_b, Bool.not_false, cd_t]
     rw [dec_lo hsp hlo] at f2
     exact kF (fun h => hd (h _ (List.getElem_mem hp))) _ f2
   ·have := (dec_hi hsp (by omega)).1
    have e : hexC (Utf8.decode ⟨⟨s⟩⟩ p).1 = false := decide_eq_false fun h => by omega
    rw [e]
    simp only [nt_b, Bool.not_false, cd_t]
    exact kF (fun h => hlo (dig_lo _ (h _ (List.getElem_mem hp)))) _ f2
  ·rw [nx_f hg (by omega)]
   simp only [ex_t, List.getElem?_cons_zero, oP_some, cd_f]
   refine kT (fun b hb => ht b ?_) h f
   rw [List.take_of_length_le (by omega)]
   exact hb
theorem num5_ok {n base : Nat} {s : Bs} {h : H} {K : V → H → Prop} (L : Low h) (hbd : Bd h) (hs : s.length < 100000) (hb : base = 10 ∨ base = 16)
  (k : ∀ h', But h h' none → K (match numB s base with | some o => .t [.s o, .b true] | none => .t [.s [], .b false]) h') :
  F163_5 pw (mkX Tryz.prog) (Ok Tryz.prog (n + 5)) K (.s s) (.i .i64 base) h := by
 unfold F163_5
 rw [rn_s tt9 rfl]
 have f0 : But h ⟨h.next + 1, h.mem.put h.next (some (.it s 0))⟩ none := But.new _ _ _
 have L0 : Low ⟨h.next + 1, h.mem.put h.next (some (.it s 0))⟩ := L.keep f0 (fun r e => by cases e)
 have ov : ∀ {h' : H}, But ⟨h.next + 1, h.mem.put h.next (some (.it s 0))⟩ h' (some h.next) → But h h' none := fun f => f0.over f (.inr fun r e => by cases e; exact Nat.le_refl _)
 refine runes_ok (n := n) (h0 := ⟨h.next + 1, h.mem.put h.next (some (.it s 0))⟩) L0 L.nx hb (fun hd h' f => ?_) (fun hd h' f => ?_) s.length 0 100000 _ (by omega) hs (fun b hb => by simp at hb) ?_ (Nat.lt_succ_self _) (But.refl _ _) (f0.2.2 hbd)
 ·exact num11_ok (n := n + 1) (L0.keep f (fun r e => by cases e; exact L.nx)) hb hd fun h2 f2 => k h2 ((ov f).trans f2)
 ·have := k h' (ov f)
  have e : numB s base = none := by
   unfold numB
   rw [numV_hex (by omega) hd]
   split <;> rfl
  rw [e] at this
  exact this
 ·show (h.mem.put h.next _).get h.next = _
  rw [T.get_put, if_pos rfl]
theorem num_ok {n : Nat} (hn : 6 ≤ n) {s : Bs} {h : H} {K : V → H → Prop} (L : Low h) (hs : s.length < 100000)
  (k : ∀ h', But h h' none → K (match num s with | some o => .t [.s o, .b true] | none => .t [.s [], .b false]) h') : Ok Tryz.prog n 163 [.s s] h K := by
 obtain ⟨n, rfl⟩ := Nat.exists_eq_add_of_le' hn
 refine Ok.bd (K163 fun hbd => ?_)
 unfold F163
 simp only [cf_k, c163]
 refine cutp_ok (by omega) ?_
 have hx : hasP [120] s = match s with | [] => false | a :: _ => decide (a = 120) := by
  unfold hasP
  cases s with
  | nil => rfl
  | cons a l =>
   rw [Bool.eq_iff_iff]
   simp
 cases s with
 | nil =>
  simp only [hx, Bool.false_eq_true, if_false, ex_t, List.getElem?_cons_zero, List.getElem?_cons_succ, oP_some, cd_f]
  refine num5_ok (base := 10) L hbd (by simp) (.inl rfl) fun h' f => ?_
  intro _
  exact k h' f
 | cons a l =>
  by_cases ha : a = 120
  ·simp only [hx, decide_eq_true ha, if_true, ex_t, List.getElem?_cons_zero, List.getElem?_cons_succ, oP_some, cd_t, List.length_singleton, List.drop_succ_cons, List.drop_zero]
   refine num5_ok (base := 16) L hbd (by simp at hs; omega) (.inr rfl) fun h' f => ?_
   intro _
   have := k h' f
   simp only [num, if_pos ha] at this
   exact this
  ·simp only [hx, decide_eq_false ha, Bool.false_eq_true, if_false, ex_t, List.getElem?_cons_zero, List.getElem?_cons_succ, oP_some, cd_f]
   refine num5_ok (base := 10) L hbd hs (.inl rfl) fun h' f => ?_
   intro _
   have := k h' f
   simp only [num, if_neg ha] at this
   exact this
theorem sign_ok {n : Nat} (hn : 7 ≤ n) {s : Bs} {h : H} {K : V → H → Prop} (L : Low h) (hs : s.length < 100000)
  (k : ∀ h', But h h' none → K (match sgn s with | some o => .t [.s o, .b true] | none => .t [.s [], .b false]) h') : Ok Tryz.prog n 138 [.s s] h K := by
 obtain ⟨n, rfl⟩ := Nat.exists_eq_add_of_le' hn
 refine Ok.bd (K138 fun hbd => ?_)
 unfold F138
 simp only [c138, eq_s, F138_4, F138_6, cf_k]
 have fin : ∀ {p o : Bs} {A : Prop}, (s = p → sgn s = some o) → (¬ s = p → A) → pw.cd (.b (s == p)) (Bd h → K (.t [.s o, .b true]) h) A := by
  intro p o A h1 h2
  by_cases e : s = p
  ·rw [show (s == p) = true by rw [e]; simp]
   simp only [cd_t]
   intro _
   have := k h (But.refl _ _)
   rw [h1 e] at this
   exact this
  ·rw [show (s == p) = false by simpa using e]
   simp only [cd_f]
   exact h2 e
 refine fin (fun e => by rw [e]; rfl) fun n1 => ?_
 refine fin (fun e => by rw [e]; rfl) fun n2 => ?_
 refine fin (fun e => by rw [e]; rfl) fun n3 => ?_
 refine fin (fun e => by rw [e]; rfl) fun n4 => ?_
 refine fin (fun e => by rw [e]; rfl) fun n5 => ?_
 refine cutp_ok (by omega) ?_
 have hg : sgn s = match s with | [] => none | a :: l => if a = 35 then num l else none := by
  simp only [sgn, if_neg n1, if_neg n2, if_neg n3, if_neg n4, if_neg n5]
  cases s <;> rfl
 have hx : hasP [35] s = match s with | [] => false | a :: _ => decide (a = 35) := by
  unfold hasP
  cases s with
  | nil => rfl
  | cons a l =>
   rw [Bool.eq_iff_iff]
   simp
 cases s with
 | nil =>
  simp only [hx, Bool.false_eq_true, if_false, ex_t, List.getElem?_cons_zero, List.getElem?_cons_succ, oP_some, cd_f]
  intro _
  have := k h (But.refl _ _)
  rw [hg] at this
  exact this
 | cons a l =>
  by_cases ha : a = 35
  ·simp only [hx, decide_eq_true ha, if_true, ex_t, List.getElem?_cons_zero, List.getElem?_cons_succ, oP_some, cd_t, List.length_singleton, List.drop_succ_cons, List.drop_zero]
   refine num_ok (by omega) L (by simp at hs; omega) fun h' f => ?_
   have := k h' f
   simp only [hg, if_pos ha] at this
   revert this
   cases num l with
   | none =>
    intro this
    simp only [ex_t, List.getElem?_cons_zero, List.getElem?_cons_succ, oP_some]
    intro _
    exact this
   | some o =>
    intro this
    simp only [ex_t, List.getElem?_cons_zero, List.getElem?_cons_succ, oP_some]
    intro _
    exact this
  ·simp only [hx, decide_eq_false ha, Bool.false_eq_true, if_false, ex_t, List.getElem?_cons_zero, List.getElem?_cons_succ, oP_some, cd_f]
   intro _
   have := k h (But.refl _ _)
   simp only [hg, if_neg ha] at this
   exact this
end Go.Proofs.YtbkhielalbbopaaGreatDoor.Wb
