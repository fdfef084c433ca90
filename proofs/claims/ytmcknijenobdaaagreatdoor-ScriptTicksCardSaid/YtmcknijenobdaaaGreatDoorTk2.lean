/- What building a text comes to. -/
import Derived.Test.YtmcknijenobdaaaGreatDoorXs1
import Derived.Test.YtmcknijenobdaaaGreatDoorYtmcLx
import Derived.Test.YtmcknijenobdaaaGreatDoorWt0
set_option linter.unusedSimpArgs false
set_option linter.unusedVariables false
set_option linter.unusedSectionVars false
set_option linter.unnecessarySimpa false
set_option maxRecDepth 100000
namespace Go.Proofs.YtmcknijenobdaaaGreatDoor.Wb
open Go Go.Am Go.Am.Xm

theorem ib_ok {n : Nat} {l : Bs} {c : UInt8} {h : H} {K : V → H → Prop} (k : K (.i .i64 (Lib.indexByte l c)) h) : Ok Tryz.prog (n + 1) 217 [.s l, .i .u8 c.toNat] h K := by
  refine ext_ok Tryz.func217 (by kernel_rfl) (by kernel_rfl) (by kernel_rfl) (v := .i .i64 (Lib.indexByte l c)) ?_ k
  have : Tryz.f217.name = "internal/bytealg.IndexByteString" := by kernel_rfl
  rw [this]
  show (some (V.i .i64 (Lib.indexByte l ((c.toNat : Int).toNat.toUInt8))) : Option V) = _
  simp
theorem ne_ok {n : Nat} {r o : Nat} {h : H} {K : V → H → Prop} (k : K (.p r o) h) : Ok Tryz.prog (n + 1) 48 [.p r o] h K := by
  refine ext_ok Tryz.func48 (by kernel_rfl) (by kernel_rfl) (by kernel_rfl) (v := .p r o) ?_ k
  have : Tryz.f48.name = "internal/abi.NoEscape" := by kernel_rfl
  rw [this]
  rfl

theorem idx1_ok {n : Nat} (hn : 3 ≤ n) {l : Bs} {c : UInt8} {h : H} {K : V → H → Prop} (k : K (.i .i64 (Lib.indexByte l c)) h) : Ok Tryz.prog n 131 [.s l, .s [c]] h K := by
  obtain ⟨n, rfl⟩ := Nat.exists_eq_add_of_le' hn
  refine Ok.bd (K131 fun hbd => ?_)
  unfold F131
  have e : ([c] : Bs)[0]? = some c := rfl
  simp (disch := omega) only [ws, lg_s tt9 rfl, List.length_singleton, Int.cast_ofNat_Int, dec_t, dec_f, eq_s]
  cases hc : ([c] == l) with
  | true =>
    have := eq_of_beq hc
    subst this
    simp (disch := omega) only [ws]
    intro hb2
    have : Lib.indexByte [c] c = 0 := by simp [Lib.indexByte]
    rw [this] at k
    exact k
  | false =>
    have e0 : ∀ κ : V → Prop, pw.ix (mkX Tryz.prog) 9 (.s [c]) (.i .i64 0) κ = κ (.i .u8 c.toNat) := fun κ => ix_s tt9 rfl (n := 0) e
    simp (disch := omega) only [ws, e0]
    refine K141 fun hbd2 => ?_
    unfold F141
    simp (disch := omega) only [ws]
    exact ib_ok fun _ => k

theorem uns47 : unSliced (mkX Tryz.prog) 52 = true := by rw [Facts.lx]; kernel_rfl
theorem chk_ok {n : Nat} (hn : 2 ≤ n) {h : H} {K : V → H → Prop} {r : Nat} {s : V} {bs : Bs} (b : Bld h 52 5 r s bs)
    (k : ∀ h', Bld h' 52 5 r s bs → But h h' (some r) → K (.t []) h') : Ok Tryz.prog n 19 [.p r 0] h K := by
  obtain ⟨n, rfl⟩ := Nat.exists_eq_add_of_le' hn
  refine Ok.bd (K19 fun hbd => ?_)
  unfold F19
  obtain ⟨a, ha, rfl | rfl⟩ := b.at_
  · simp (disch := omega) only [ws, Nat.zero_add]
    rw [l1_a ha rfl, eq_nn tt49 rfl]
    simp (disch := omega) only [ws]
    rw [cs_up tt49 rfl tt117 rfl tt52 (by decide) ha (by simp)]
    refine ne_ok ?_
    rw [cs_pu tt117 rfl tt49 rfl tt52 (by decide) uns47 ha (by simp)]
    refine s1_a ha (by simp) (by rfl) fun h' h1 h2 _ => ?_
    exact k h' ⟨⟨.p r 0, h1, .inr rfl⟩, b.vec.keep b.lt h2 (.inl b.ne), b.ne, fun q hq => Nat.lt_of_lt_of_le (b.lt q hq) h2.1, Nat.lt_of_lt_of_le b.rlt h2.1, b.nz⟩ h2
  · simp (disch := omega) only [ws, Nat.zero_add]
    rw [l1_a ha rfl, eq_pn tt49 rfl]
    simp (disch := omega) only [ws, Nat.zero_add]
    rw [l1_a ha rfl, ne_pp tt49 rfl tt52 (by decide)]
    simp (disch := omega) only [ws]
    intro _
    exact k h b (But.refl _ _)

set_option maxHeartbeats 1000000 in
theorem wr_ok {n : Nat} (hn : 3 ≤ n) {h : H} {K : V → H → Prop} {r : Nat} {s : V} {bs l : Bs} (b : Bld h 52 5 r s bs) (hl : bs.length + l.length ≤ 1099511627776)
    (k : ∀ h' s', Bld h' 52 5 r s' (bs ++ l) → But2 h h' r (vblk s) → (vblk s' = vblk s ∨ ∀ z, vblk s' = some z → h.next ≤ z) → K (.t [.i .i64 l.length, .ni]) h') : Ok Tryz.prog n 10 [.p r 0, .s l] h K := by
  obtain ⟨n, rfl⟩ := Nat.exists_eq_add_of_le' hn
  refine Ok.bd (K10 fun hbd => ?_)
  unfold F10
  simp (disch := omega) only [ws]
  refine chk_ok (by omega) b fun h1 b1 f1 => ?_
  obtain ⟨a, ha, hn⟩ := b1.at_
  simp (disch := omega) only [ws, Nat.zero_add]
  rw [l1_a ha rfl]
  by_cases hl0 : l = []
  · subst hl0
    have he : appendH (mkX Tryz.prog) h1 50 9 s (.s []) = some (s, h1) := by
      unfold appendH
      rw [ti_some _ tt50]
      simp only
      rw [ti_some _ tt5, ti_some _ tt9]
      rcases b1.vec.2 with ⟨e, _⟩ | ⟨r', c', e', l', e, _, hc, _⟩
      · rw [e]; rfl
      · rw [e]
        simp only [lenV, List.length_nil, fcells, List.take_nil, List.map_nil]
        unfold appA
        simp only [Nat.beq_refl, cond_true, Nat.ble_eq_true_of_le hc]
    refine ap_e he ?_
    refine s1_a ha (by simp) ?_ fun h3 h4 f3 _ => ?_
    · rcases b1.vec.2 with ⟨e, _⟩ | ⟨r', c', e', l', e, _⟩ <;> rw [e] <;> rfl
    rw [List.append_nil] at k
    refine k h3 s ⟨⟨a, h4, hn⟩, b1.vec.keep b1.lt f3 (.inl b1.ne), b1.ne, fun q hq => Nat.lt_of_lt_of_le (b1.lt q hq) f3.1, Nat.lt_of_lt_of_le b1.rlt f3.1, b1.nz⟩ ?_ (.inl rfl)
    exact (f1.two (.inr (.inl rfl))).trans (f3.two (.inr (.inl rfl)))
  refine ap_vec tt50 rfl tt5 tt9 (by intro k; simp) (w := .s l) (m := l.length) rfl (cs := u8s l) ?_ b1.vec (by simp [u8s]) (u8s_one l) (by simp [most]; omega) (by simp [most]; omega) fun s' h2 v2 f2 hs => ?_
  · simp [fcells, u8s]
  rw [← u8s_app] at v2
  rw [show bs.length + l.length = (bs ++ l).length by simp] at v2
  have ha2 : h2.mem.get r = some (.c [a, s] 52 true) := f2.get b1.rlt (fun e => b1.ne e.symm) ha
  have ne' : vblk s' ≠ some r := by
    rcases hs with e | ⟨e, _⟩
    · rw [e]; exact b1.ne
    · rw [e]
      intro e2
      have := b1.rlt
      cases e2
      omega
  have lt' : ∀ q, vblk s' = some q → q < h2.next := fun q hq => by
    rcases hs with e | ⟨e, e2⟩
    · rw [e] at hq; exact Nat.lt_of_lt_of_le (b1.lt q hq) f2.1
    · rw [e] at hq; cases hq; exact e2
  refine s1_a ha2 (by simp) ?_ fun h3 h4 f3 _ => ?_
  · rcases v2.2 with ⟨e, _⟩ | ⟨r', c', e', l', e, _⟩ <;> rw [e] <;> rfl
  have lt3 : ∀ q, vblk s' = some q → q < h3.next := fun q hq => Nat.lt_of_lt_of_le (lt' q hq) f3.1
  refine k h3 s' ⟨⟨a, h4, hn⟩, v2.keep lt' f3 (.inl ne'), ne', lt3, Nat.lt_of_lt_of_le b1.rlt (Nat.le_trans f2.1 f3.1), .inr (by have := List.length_pos_iff.2 hl0; rw [List.length_append]; omega)⟩ ?_ ?_
  · exact ((f1.two (.inr (.inl rfl))).trans (f2.two (.inr (.inr rfl)))).trans (f3.two (.inr (.inl rfl)))
  · rcases hs with e | ⟨e, e2⟩
    · exact .inl e
    · refine .inr fun z hz => ?_
      rw [e] at hz
      cases hz
      exact f1.1

set_option maxHeartbeats 1000000 in
theorem str_ok {n : Nat} (hn : 1 ≤ n) {h : H} {K : V → H → Prop} {r : Nat} {s : V} {bs : Bs} (b : Bld h 52 5 r s bs) (hl : bs.length ≤ 1099511627776)
    (k : ∀ h', But h h' (vblk s) → K (.s bs) h') : Ok Tryz.prog n 12 [.p r 0] h K := by
  obtain ⟨n, rfl⟩ := Nat.exists_eq_add_of_le' hn
  refine Ok.bd (K12 fun hbd => ?_)
  unfold F12
  obtain ⟨a, ha, hn⟩ := b.at_
  simp (disch := omega) only [ws, Nat.zero_add]
  rw [l1_a ha rfl]
  rcases b.vec.2 with ⟨e, e0⟩ | ⟨r', c', e', l', e, hg, hc, hlen, htk⟩
  · subst e
    have : bs = [] := List.length_eq_zero_iff.1 e0
    subst this
    rw [sd_ns, l1_a ha rfl, ls_ns tt50 rfl, us_0 (.inl rfl)]
    intro _
    exact k h (But.refl _ _)
  · subst e
    have h0 : 0 < bs.length := b.nz.resolve_left (by simp)
    rw [sd_sl (by omega), l1_a ha rfl, ls_sl tt50 rfl]
    rw [us_n tt87 rfl tt5 rfl hg (by rw [hlen]; simpa using hc) (by rw [htk, Nat.mul_one]) hl h0]
    intro hb3
    exact k _ ⟨Nat.le_refl _, fun q hq hne => by
      show (h.mem.put r' none).get q = _
      rw [T.get_put, if_neg (fun e => hne (by rw [← e]; rfl))], fun _ => hb3⟩

theorem bn2 {h0 h h' : H} {r : Nat} {c : Option Nat} (f0 : But h0 h none) (f : But2 h h' r c) (hr : h0.next ≤ r) (hc : ∀ z, c = some z → h0.next ≤ z) : But h0 h' none := by
  refine ⟨Nat.le_trans f0.1 f.1, fun q hq _ => ?_, f.2.2 ∘ f0.2.2⟩
  rw [f.2.1 q (Nat.lt_of_lt_of_le hq f0.1) (by omega) (fun e => by have := hc q e.symm; omega)]
  exact f0.2.1 q hq (by simp)
theorem bn1 {h0 h h' : H} {c : Option Nat} (f0 : But h0 h none) (f : But h h' c) (hc : ∀ z, c = some z → h0.next ≤ z) : But h0 h' none := by
  refine ⟨Nat.le_trans f0.1 f.1, fun q hq _ => ?_, f.2.2 ∘ f0.2.2⟩
  rw [f.2.1 q (Nat.lt_of_lt_of_le hq f0.1) (fun e => by have := hc q e.symm; omega)]
  exact f0.2.1 q hq (by simp)

set_option maxHeartbeats 1000000 in
/-- One byte more. -/
theorem wb_ok {n : Nat} (hn : 3 ≤ n) {h : H} {K : V → H → Prop} {r : Nat} {s : V} {bs : Bs} {c : UInt8} {z : Int} (hz : z = c.toNat) (b : Bld h 52 5 r s bs) (hl : bs.length + 1 ≤ 1099511627776)
    (k : ∀ h' s', Bld h' 52 5 r s' (bs ++ [c]) → But2 h h' r (vblk s) → (vblk s' = vblk s ∨ ∀ z, vblk s' = some z → h.next ≤ z) → K .ni h') : Ok Tryz.prog n 49 [.p r 0, .i .u8 z] h K := by
  subst hz
  obtain ⟨n, rfl⟩ := Nat.exists_eq_add_of_le' hn
  refine Ok.bd (K49 fun hbd => ?_)
  unfold F49
  simp (disch := omega) only [ws]
  refine chk_ok (by omega) b fun h1 b1 f1 => ?_
  obtain ⟨a, ha, hn⟩ := b1.at_
  simp (disch := omega) only [ws, Nat.zero_add]
  rw [l1_a ha rfl]
  refine bs_a tt50 rfl tt5 (by decide) (l := [(0, .i .u8 c.toNat)]) rfl (cs := [.i .u8 c.toNat]) rfl fun r2 h2 g2 f2 l2 l2' => ?_
  have b2 : Bld h2 52 5 r s bs := b1.keep f2 (by simp) (.inr rfl)
  have ha2 : h2.mem.get r = some (.c [a, s] 52 true) := f2.get b1.rlt (by simp) ha
  refine ap_vec tt50 rfl tt5 tt50 (by intro k; simp) (w := .sl r2 0 1 1 false) (m := 1) rfl (cs := [.i .u8 c.toNat]) ?_ b2.vec (by rfl) (by rfl) (by simp [most]; omega) (by simp [most]; omega) fun s' h3 v3 f3 hs => ?_
  · simp [fcells, g2, sub, takeN]
  have e3 : u8s bs ++ [V.i .u8 c.toNat] = u8s (bs ++ [c]) := by rw [u8s_app]; rfl
  rw [e3] at v3
  rw [show bs.length + 1 = (bs ++ [c]).length by simp] at v3
  have ha3 : h3.mem.get r = some (.c [a, s] 52 true) := f3.get b2.rlt (fun e => b2.ne e.symm) ha2
  have ne' : vblk s' ≠ some r := by
    rcases hs with e | ⟨e, _⟩
    · rw [e]; exact b2.ne
    · rw [e]
      intro e2
      have := b2.rlt
      cases e2
      omega
  have lt' : ∀ q, vblk s' = some q → q < h3.next := fun q hq => by
    rcases hs with e | ⟨e, e2⟩
    · rw [e] at hq; exact Nat.lt_of_lt_of_le (b2.lt q hq) f3.1
    · rw [e] at hq; cases hq; exact e2
  try simp (disch := omega) only [ws, Nat.zero_add]
  refine s1_a ha3 (by simp) ?_ fun h4 g4 f4 _ => ?_
  · rcases v3.2 with ⟨e, _⟩ | ⟨r', c', e', l', e, _⟩ <;> rw [e] <;> rfl
  have lt4 : ∀ q, vblk s' = some q → q < h4.next := fun q hq => Nat.lt_of_lt_of_le (lt' q hq) f4.1
  refine k h4 s' ⟨⟨a, g4, hn⟩, v3.keep lt' f4 (.inl ne'), ne', lt4, Nat.lt_of_lt_of_le b2.rlt (Nat.le_trans f3.1 f4.1), .inr (by simp)⟩ ?_ ?_
  · exact (((f1.two (.inr (.inl rfl))).trans (f2.two (.inl rfl))).trans (f3.two (.inr (.inr rfl)))).trans (f4.two (.inr (.inl rfl)))
  · rcases hs with e | ⟨e, e2⟩
    · exact .inl e
    · refine .inr fun z hz => ?_
      rw [e] at hz
      cases hz
      exact Nat.le_trans f1.1 f2.1
end Go.Proofs.YtmcknijenobdaaaGreatDoor.Wb
