/- What a text's signs, read by the program, come to. -/
import Derived.Test.YtbkhielalbbopaaGreatDoorZs2
import Derived.Test.YtbkhielalbbopaaGreatDoorUz0
import Derived.Test.YtbkhielalbbopaaGreatDoorWs
import Derived.Test.YtbkhielalbbopaaGreatDoorUy0
set_option linter.unusedSimpArgs false
set_option linter.unusedVariables false
set_option linter.unusedSectionVars false
set_option linter.unnecessarySimpa false
set_option maxRecDepth 100000
namespace Go.Am.Xm
open Go.Proofs.YtbkhielalbbopaaGreatDoor.Wb in
theorem enc_four (n : Nat) : (Utf8.encode (n : Int)).data.toList.length ≤ 4 := by
 by_cases h : n < 128
 ·rw [enc_lo h, List.length_singleton]; omega
 ·obtain ⟨a, b, r, e, _, hr⟩ := enc_hi (show 128 ≤ n by omega)
  rw [e]
  simp only [List.length_cons]; omega
theorem sgn_four {s r : Bs} (h : sgn s = some r) : r.length ≤ 4 := by
 have hb : ∀ {d : Bs} {b : Nat} {r : Bs}, numB d b = some r → r.length ≤ 4 := by
  intro d b r h
  unfold numB at h
  split at h
  ·cases h
  ·split at h
   ·cases h
   ·split at h
    ·rw [← Option.some.inj h]; exact enc_four _
    ·cases h
 have hn : ∀ {s r : Bs}, num s = some r → r.length ≤ 4 := by
  intro s r h
  unfold num at h
  split at h
  ·cases h
  ·split at h
   ·exact hb h
   ·exact hb h
 unfold sgn at h
 split at h
 ·rw [← Option.some.inj h]; decide
 split at h
 ·rw [← Option.some.inj h]; decide
 split at h
 ·rw [← Option.some.inj h]; decide
 split at h
 ·rw [← Option.some.inj h]; decide
 split at h
 ·rw [← Option.some.inj h]; decide
 split at h
 ·cases h
 ·split at h
  ·exact hn h
  ·cases h
end Go.Am.Xm
namespace Go.Proofs.YtbkhielalbbopaaGreatDoor.Wb
open Go Go.Am Go.Am.Xm
structure Bh (hS h : H) (r : Nat) (s : V) (bs : Bs) : Prop where
 b : Bld h 165 5 r s bs
 f : But hS h none
 r0 : hS.next ≤ r
 s0 : ∀ z, vblk s = some z → hS.next ≤ z
theorem Bh.wr {hS h : H} {r : Nat} {s : V} {bs : Bs} (B : Bh hS h r s bs) {n : Nat} (hn : 3 ≤ n) {l : Bs} (hl : bs.length + l.length ≤ 1099511627776) {K : V → H → Prop}
  (k : ∀ h' s', Bh hS h' r s' (bs ++ l) → K (.t [.i .i64 l.length, .ni]) h') : Ok Tryz.prog n 118 [.p r 0, .s l] h K := by
 refine wr_ok hn B.b hl fun h' s' b' f' e' => k h' s' ⟨b', ?_, B.r0, fun z hz => ?_⟩
 ·refine ⟨Nat.le_trans B.f.1 f'.1, fun p hp hq => ?_, f'.2.2 ∘ B.f.2.2⟩
  rw [f'.2.1 p (Nat.lt_of_lt_of_le hp B.f.1) (by have := B.r0; omega) (fun e => by have := B.s0 p e.symm; omega), B.f.2.1 p hp hq]
 ·rcases e' with e | e
  ·exact B.s0 z (e ▸ hz)
  ·exact Nat.le_trans B.f.1 (e z hz)
theorem Bh.str {hS h : H} {r : Nat} {s : V} {bs : Bs} (B : Bh hS h r s bs) {n : Nat} (hn : 1 ≤ n) (hl : bs.length ≤ 1099511627776) {K : V → H → Prop}
  (k : ∀ h', But hS h' none → K (.s bs) h') : Ok Tryz.prog n 119 [.p r 0] h K :=
 str_ok hn B.b hl fun h' f' => k h' (B.f.over f' (.inr B.s0))
theorem Bh.keep {hS h h' : H} {r : Nat} {s : V} {bs : Bs} (B : Bh hS h r s bs) (f : But h h' none) : Bh hS h' r s bs :=
 ⟨B.b.keep f (by simp) (.inr rfl), B.f.trans f, B.r0, B.s0⟩
theorem Bh.low {hS h : H} {r : Nat} {s : V} {bs : Bs} (B : Bh hS h r s bs) (L : Low hS) : Low h := L.keep B.f (by simp)
theorem Bh.new {h h' : H} {r : Nat} (hg : h'.mem.get r = some (.c [.np, .ns] 165 true)) (f : But h h' none) (h1 : h.next ≤ r) (h2 : r < h'.next) : Bh h h' r .ns [] :=
 ⟨⟨⟨.np, hg, .inl rfl⟩, ⟨by simp [u8s], .inl ⟨rfl, rfl⟩⟩, by simp [vblk], by simp [vblk], h2, .inl rfl⟩, f, h1, by simp [vblk]⟩
theorem unl_ok {n : Nat} (hn : 8 ≤ n) {hS : H} (L : Low hS) {K : V → H → Prop} {R : Option Bs}
  (k : ∀ h', But hS h' none → K (match R with | some o => .t [.s o, .b true] | none => .t [.s [], .b false]) h') :
  ∀ (m : Nat) (l done : Bs) (h : H) (r : Nat) (s : V), l.length < m → l.length < 100000 → Bh hS h r s done → done.length + 4 * l.length ≤ 1099511627776 → (unE l).map (done ++ ·) = R →
   F111_5 pw (mkX Tryz.prog) (Ok Tryz.prog n) (fun v h => Bd h → K v h) m (.s l) (.p r 0) h := by
 intro m
 induction m with
 | zero => intro l done h r s hm; omega
 | succ m ih =>
  intro l done h r s hm hl B hd hR
  rw [S111_5]
  simp only [c111, cf_k]
  refine cut_ok (by omega) (by omega) (fun a b e => ?_) (fun e => ?_)
  ·have hlen := cut1_len e
   have he := (cut1_some e).1
   have hna := (cut1_some e).2
   simp only [ex_t, List.getElem?_cons_zero, List.getElem?_cons_succ, oP_some, cf_k]
   refine B.wr (by omega) (by omega) fun h1 s1 B1 => ?_
   simp (disch := omega) only [ws, Bool.not_true]
   unfold F111_19
   simp only [c111, cf_k]
   have hR' : (unE (38 :: b)).map ((done ++ a) ++ ·) = R := by
    rw [← hR, he, unE_app hna, Option.map_map]
    congr 1
    funext t
    simp
   refine cut_ok (by omega) (by omega) (fun nm t e2 => ?_) (fun e2 => ?_)
   ·have hlen2 := cut1_len e2
    rw [unE_amp e2] at hR'
    simp only [ex_t, List.getElem?_cons_zero, List.getElem?_cons_succ, oP_some]
    simp (disch := omega) only [ws, Bool.not_true]
    unfold F111_31
    simp only [cf_k]
    refine sign_ok (by omega) (B1.low L) (by omega) fun h2 f2 => ?_
    cases hs : sgn nm with
    | none =>
     rw [hs] at hR'
     simp only [ex_t, List.getElem?_cons_zero, List.getElem?_cons_succ, oP_some]
     simp (disch := omega) only [ws, Bool.not_false]
     have := k h2 (B1.f.trans f2)
     rw [← hR'] at this
     exact fun _ => this
    | some o =>
     have ho := sgn_four hs
     rw [hs] at hR'
     simp only [ex_t, List.getElem?_cons_zero, List.getElem?_cons_succ, oP_some]
     simp (disch := omega) only [ws, Bool.not_true]
     unfold F111_42
     simp only [cf_k]
     refine (B1.keep f2).wr (by omega) (by simp only [List.length_append]; omega) fun h3 s3 B3 => ?_
     refine ih t _ h3 r s3 (by omega) (by omega) B3 (by simp only [List.length_append]; omega) ?_
     rw [← hR']
     simp only [Option.map_map]
     congr 1
     funext t
     simp
   ·rw [unE_amp_none e2] at hR'
    simp only [ex_t, List.getElem?_cons_zero, List.getElem?_cons_succ, oP_some]
    simp (disch := omega) only [ws, Bool.not_false]
    have := k h1 B1.f
    rw [← hR'] at this
    exact fun _ => this
  ·have hna := cut1_none e
   simp only [ex_t, List.getElem?_cons_zero, List.getElem?_cons_succ, oP_some, cf_k]
   refine B.wr (by omega) (by omega) fun h1 s1 B1 => ?_
   simp (disch := omega) only [ws, Bool.not_false]
   refine B1.str (by omega) (by simp only [List.length_append]; omega) fun h2 f2 => ?_
   have := k h2 f2
   rw [← hR, unE_plain hna] at this
   exact fun _ => this
theorem un_ok {n : Nat} (hn : 9 ≤ n) {h : H} {K : V → H → Prop} {l : Bs} (L : Low h) (hl : l.length < 100000)
  (k : ∀ h', But h h' none → K (match unE l with | some o => .t [.s o, .b true] | none => .t [.s [], .b false]) h') : Ok Tryz.prog n 111 [.s l] h K := by
 obtain ⟨n, rfl⟩ := Nat.exists_eq_add_of_le' hn
 refine Ok.bd (K111 fun hbd => ?_)
 unfold F111
 refine al_a tt165 fun r h1 hg f h2 h3 => ?_
 refine unl_ok (by omega) L (R := unE l) k 100000 l [] h1 r .ns hl hl (Bh.new hg f h2 h3) (by simp; omega) ?_
 cases unE l <;> rfl
def Prs (h : H) (r : Nat) (s : Bs) (bad : Bool) (d : Int) : Prop := ∃ ty, h.mem.get r = some (.c [.s s, .b bad, .i .i64 d] ty true)
theorem take_ok {n : Nat} (hn : 4 ≤ n) {r : Nat} {s t : Bs} {bad : Bool} {d : Int} {h : H} {K : V → H → Prop} (P : Prs h r s bad d)
  (k : ∀ h', Prs h' r (if hasP t s = true ∧ bad = false then s.drop t.length else s) bad d → But h h' (some r) → K (.b (hasP t s && !bad)) h') : Ok Tryz.prog n 76 [.p r 0, .s t] h K := by
 obtain ⟨n, rfl⟩ := Nat.exists_eq_add_of_le' hn
 obtain ⟨ty, P⟩ := P
 refine Ok.bd (K76 fun hbd => ?_)
 unfold F76
 simp (disch := omega) only [ws, Nat.zero_add]
 rw [l1_a P rfl]
 refine cutp_ok (by omega) ?_
 cases ht : hasP t s with
 | false =>
  rw [ht] at k
  simp only [Bool.false_eq_true, if_false, false_and, Bool.false_and] at k ⊢
  simp only [ex_t, List.getElem?_cons_zero, List.getElem?_cons_succ, oP_some, g1_f, pk_f, cd_f, F76_15]
  exact fun _ => k h ⟨ty, P⟩ (But.refl _ _)
 | true =>
  rw [ht] at k
  simp only [if_true, true_and, Bool.true_and] at k ⊢
  simp only [ex_t, List.getElem?_cons_zero, List.getElem?_cons_succ, oP_some, g1_t, nl_p, fa_p, Nat.zero_add]
  rw [l1_a P rfl]
  simp only [nt_b, pk_t]
  cases bad with
  | true =>
   simp only [Bool.not_true, cd_f, F76_15, Bool.true_eq_false, if_false] at k ⊢
   exact fun _ => k h ⟨ty, P⟩ (But.refl _ _)
  | false =>
   simp only [Bool.not_false, cd_t, if_true] at k ⊢
   refine s1_a P (by simp) rfl fun h1 hg f => ?_
   exact fun _ => k h1 ⟨ty, hg⟩ f
theorem want_ok {n : Nat} (hn : 5 ≤ n) {r : Nat} {s t : Bs} {bad : Bool} {d : Int} {h : H} {K : V → H → Prop} (P : Prs h r s bad d)
  (k : ∀ h', Prs h' r (if hasP t s = true ∧ bad = false then s.drop t.length else s) (bad || !hasP t s) d → But h h' (some r) → K (.t []) h') : Ok Tryz.prog n 40 [.p r 0, .s t] h K := by
 obtain ⟨n, rfl⟩ := Nat.exists_eq_add_of_le' hn
 refine Ok.bd (K40 fun hbd => ?_)
 unfold F40
 rw [cf_k]
 refine take_ok (by omega) P fun h1 P1 f1 => ?_
 cases ht : hasP t s with
 | true =>
  rw [ht] at k P1
  simp only [Bool.true_and, nt_b, Bool.not_not, Bool.not_true, Bool.or_false, true_and] at k P1 ⊢
  cases bad with
  | true =>
   simp only [Bool.true_eq_false, if_false, cd_t] at k P1 ⊢
   obtain ⟨ty, P1⟩ := P1
   simp only [nl_p, fa_p, Nat.zero_add]
   refine s1_a P1 (by simp) rfl fun h2 hg f => ?_
   exact fun _ => k h2 ⟨ty, hg⟩ (f1.trans f)
  | false =>
   simp only [cd_f, if_true] at k P1 ⊢
   exact fun _ => k h1 P1 f1
 | false =>
  rw [ht] at k P1
  simp only [Bool.false_and, nt_b, Bool.not_false, Bool.or_true, Bool.false_eq_true, false_and, if_false, cd_t] at k P1 ⊢
  obtain ⟨ty, P1⟩ := P1
  simp only [nl_p, fa_p, Nat.zero_add]
  refine s1_a P1 (by simp) rfl fun h2 hg f => ?_
  exact fun _ => k h2 ⟨ty, hg⟩ (f1.trans f)
theorem Prs.keep {h h' : H} {r : Nat} {s : Bs} {bad : Bool} {d : Int} {q : Option Nat} (P : Prs h r s bad d) (f : But h h' q) (hr : r < h.next) (hq : q ≠ some r) : Prs h' r s bad d := by
 obtain ⟨ty, P⟩ := P
 exact ⟨ty, f.get hr (fun e => hq e.symm) P⟩
theorem to1_ok {n : Nat} (hn : 6 ≤ n) {r : Nat} {s : Bs} {c : UInt8} {bad : Bool} {d : Int} {h : H} {K : V → H → Prop} (P : Prs h r s bad d) (hl : s.length ≤ 1099511627776)
  (k : ∀ h' a b, cut1 c s = some (a, b) → bad = false → Prs h' r b false d → But h h' (some r) → K (.s a) h')
  (k0 : ∀ h', (cut1 c s = none ∨ bad = true) → Prs h' r s true d → But h h' (some r) → K (.s []) h') : Ok Tryz.prog n 77 [.p r 0, .s [c]] h K := by
 obtain ⟨n, rfl⟩ := Nat.exists_eq_add_of_le' hn
 obtain ⟨ty, P⟩ := P
 refine Ok.bd (K77 fun hbd => ?_)
 unfold F77
 simp only [nl_p, fa_p, Nat.zero_add]
 rw [l1_a P rfl, cf_k]
 refine cut_ok (by omega) hl (fun a b e => ?_) (fun e => ?_)
 ·simp only [ex_t, List.getElem?_cons_zero, List.getElem?_cons_succ, oP_some, nt_b, Bool.not_true, g0_f, nl_p, fa_p, Nat.zero_add]
  rw [l1_a P rfl]
  simp only [pk_f]
  cases bad with
  | true =>
   simp only [cd_t]
   refine s1_a P (by simp) rfl fun h1 hg f => ?_
   exact fun _ => k0 h1 (.inr rfl) ⟨ty, hg⟩ f
  | false =>
   simp only [cd_f, F77_17, nl_p, fa_p, Nat.zero_add]
   refine s1_a P (by simp) rfl fun h1 hg f => ?_
   exact fun _ => k h1 a b e rfl ⟨ty, hg⟩ f
 ·simp only [ex_t, List.getElem?_cons_zero, List.getElem?_cons_succ, oP_some, nt_b, Bool.not_false, g0_t, pk_t, cd_t, nl_p, fa_p, Nat.zero_add]
  refine s1_a P (by simp) rfl fun h1 hg f => ?_
  exact fun _ => k0 h1 (.inl e) ⟨ty, hg⟩ f
theorem tt158 : ∃ i, (mkX Tryz.prog).tt.get 158 = some i ∧ i.zero = List.replicate 256 (.b false) := by
 have h : ((mkX Tryz.prog).tt.get 158).map (·.zero) = some (List.replicate 256 (.b false)) := by rw [infW_eq]; kernel_rfl
 cases e : (mkX Tryz.prog).tt.get 158 with
 | none => rw [e] at h; cases h
 | some i =>
  rw [e] at h
  exact ⟨i, rfl, Option.some.inj h⟩
def asc (cs : Bs) : List V := (List.range 256).map fun n => V.b (cs.any fun c => c.toNat == n)
theorem asc_len (cs : Bs) : (asc cs).length = 256 := by simp [asc]
theorem asc_get (cs : Bs) {n : Nat} (h : n < 256) : (asc cs)[n]? = some (.b (cs.any fun c => c.toNat == n)) := by
 simp [asc, h]
theorem asc_nil : asc [] = List.replicate 256 (.b false) := by
 unfold asc
 simp only [List.any_nil]
 rw [List.map_const']
 simp
theorem asc_set (cs : Bs) (c : UInt8) : (asc cs).set c.toNat (.b true) = asc (cs ++ [c]) := by
 apply List.ext_getElem?
 intro n
 have hc := UInt8.toNat_lt c
 rw [List.getElem?_set, asc_len]
 by_cases hn : n < 256
 ·rw [asc_get _ hn, asc_get _ hn]
  by_cases e : c.toNat = n
  ·rw [if_pos e, if_pos (show c.toNat < 256 by omega)]
   simp [List.any_append, e]
  ·rw [if_neg e]
   simp [List.any_append, e]
 ·rw [List.getElem?_eq_none (l := asc (cs ++ [c])) (by rw [asc_len]; omega), List.getElem?_eq_none (l := asc cs) (by rw [asc_len]; omega)]
  rw [if_neg (show ¬ c.toNat = n by omega)]
theorem asc_one (cs : Bs) : (asc cs).all oneV = true := by
 simp [asc, oneV]
theorem msl_ok {n : Nat} {cs : Bs} (hl : cs.length < 50000) (ha : ∀ c ∈ cs, c.toNat < 128) {hS : H} {K : V → H → Prop} {r : Nat} {ty : TypeId} (hr : hS.next ≤ r)
  (k : ∀ h', But hS h' none → K (.t [.a (asc cs), .b true]) h') :
  ∀ (m i : Nat) (h : H), cs.length - i < m → i ≤ cs.length → h.mem.get r = some (.c (asc (cs.take i)) ty true) → But hS h none →
   F114_11 pw (mkX Tryz.prog) (Ok Tryz.prog n) (fun v h => Bd h → K v h) m (.s cs) (.p r 0) (.i .i64 i) h := by
 intro m
 induction m with
 | zero => intro i h hm; omega
 | succ m ih =>
  intro i h hm hi hg f
  show pw.lg _ _ _ _
  rw [lg_s tt9 rfl, lt_i]
  by_cases hlt : i < cs.length
  ·rw [decide_eq_true (show (i : Int) < cs.length by omega), cd_t]
   have hsp : cs[i]? = some (cs[i]'hlt) := List.getElem?_eq_getElem hlt
   have h128 := ha _ (List.getElem_mem hlt)
   unfold F114_15
   rw [ix_s tt9 rfl hsp, ge_i, decide_eq_false (show ¬ (128 : Int) ≤ ((cs[i]'hlt).toNat : Nat) by omega), cd_f]
   unfold F114_30
   rw [ir_p (by omega)]
   refine s1_a hg (by rw [asc_len]; simp; omega) rfl fun h1 hg1 f1 => ?_
   unfold F114_19
   rw [ad_64 (by omega), show (i : Int) + 1 = ((i + 1 : Nat) : Int) by omega]
   refine ih (i + 1) h1 (by omega) (by omega) ?_ (f.over f1 (.inr fun z e => by cases e; exact hr))
   rw [hg1]
   simp only [Nat.zero_add, Nat.mul_one, Int.toNat_natCast]
   rw [asc_set, List.take_add_one, hsp]
   rfl
  ·rw [decide_eq_false (show ¬ (i : Int) < cs.length by omega), cd_f]
   rw [List.take_of_length_le (by omega)] at hg
   unfold F114_4
   rw [ln_w hg (asc_len cs)]
   refine sn_w hg (cs := asc cs) rfl (asc_len cs) (asc_len cs) (asc_one cs) fun h1 hg1 f1 => ?_
   rw [ln_w hg1 (asc_len cs)]
   exact fun _ => k h1 (f.over f1 (.inr fun z e => by cases e; exact hr))
theorem mks_ok {n : Nat} (hn : 1 ≤ n) {cs : Bs} (hl : cs.length < 50000) (ha : ∀ c ∈ cs, c.toNat < 128) {h : H} {K : V → H → Prop}
  (k : ∀ h', But h h' none → K (.t [.a (asc cs), .b true]) h') : Ok Tryz.prog n 114 [.s cs] h K := by
 obtain ⟨n, rfl⟩ := Nat.exists_eq_add_of_le' hn
 refine Ok.bd (K114 fun hbd => ?_)
 unfold F114
 obtain ⟨i, ht, hz⟩ := tt158
 refine al_a ht fun r h1 hg f h2 h3 => ?_
 rw [hz, ← asc_nil] at hg
 exact msl_ok hl ha h2 k 100000 0 h1 (by omega) (by omega) hg f
theorem con_ok {n : Nat} (hn : 1 ≤ n) {cs : Bs} {c : UInt8} {r : Nat} {ty : TypeId} {h : H} {K : V → H → Prop} (hg : h.mem.get r = some (.c (asc cs) ty true))
  (k : K (.b (cs.any fun x => x.toNat == c.toNat)) h) : Ok Tryz.prog n 140 [.p r 0, .i .u8 c.toNat] h K := by
 obtain ⟨n, rfl⟩ := Nat.exists_eq_add_of_le' hn
 refine Ok.bd (K140 fun hbd => ?_)
 unfold F140
 have hc := UInt8.toNat_lt c
 rw [nl_p, ir_p (by omega), l1_a hg (x := .b (cs.any fun x => x.toNat == c.toNat)) (by
  simp only [Nat.zero_add, Nat.mul_one, Int.toNat_natCast]
  exact asc_get cs (by omega))]
 exact fun _ => k
def inS (cs : Bs) (c : UInt8) : Bool := cs.any fun x => x.toNat == c.toNat
def trimS (cs : Bs) : Bs → Bs
 | [] => []
 | a :: l => if inS cs a = true then trimS cs l else a :: l
theorem tral_ok {n : Nat} (hn : 1 ≤ n) {cs : Bs} {r : Nat} {ty : TypeId} {h : H} {K : V → H → Prop} (hg : h.mem.get r = some (.c (asc cs) ty true)) :
  ∀ (m : Nat) (l : Bs), l.length < m → l.length < 1000000 → K (.s (trimS cs l)) h → F115_8 pw (mkX Tryz.prog) (Ok Tryz.prog n) (fun v h => Bd h → K v h) m (.s l) (.p r 0) h := by
 intro m
 induction m with
 | zero => intro l hm; omega
 | succ m ih =>
  intro l hm hl k
  show pw.lg _ _ _ _
  rw [lg_s tt9 rfl, gt_i]
  match l, k with
  | [], k =>
   rw [decide_eq_false (show ¬ (0 : Int) < (([] : Bs).length : Nat) by simp), cd_f]
   exact fun _ => k
  | a :: l, k =>
   rw [decide_eq_true (show (0 : Int) < ((a :: l).length : Nat) by simp only [List.length_cons]; omega), cd_t]
   unfold F115_11
   rw [show pw.ix (mkX Tryz.prog) 9 (.s (a :: l)) (.i .i64 0) = fun κ => κ (.i .u8 a.toNat) from funext fun κ => ix_s tt9 rfl (n := 0) rfl]
   dsimp only
   rw [cf_k]
   refine con_ok hn hg ?_
   have e : (cs.any fun x => x.toNat == a.toNat) = inS cs a := rfl
   rw [e, nt_b]
   simp only [trimS] at k
   cases hi : inS cs a with
   | true =>
    rw [hi, if_pos rfl] at k
    simp only [Bool.not_true, cd_f, F115_14]
    rw [show pw.sc (mkX Tryz.prog) 9 (.s (a :: l)) (some (.i .i64 1)) none none = fun κ => κ (.s l) from funext fun κ => sc_s1 tt9 rfl (n := 1) (by simp)]
    exact ih l (by simp at hm; omega) (by simp at hl; omega) k
   | false =>
    rw [hi, if_neg (by decide)] at k
    simp only [Bool.not_false, cd_t, F115_4]
    exact fun _ => k
theorem trim_ok {n : Nat} (hn : 3 ≤ n) {cs l : Bs} (h2 : 2 ≤ cs.length) (hc : cs.length < 50000) (ha : ∀ c ∈ cs, c.toNat < 128) (hl : l.length < 50000) {h : H} {K : V → H → Prop}
  (k : ∀ h', But h h' none → K (.s (trimS cs l)) h') : Ok Tryz.prog n 82 [.s l, .s cs] h K := by
 obtain ⟨n, rfl⟩ := Nat.exists_eq_add_of_le' hn
 refine Ok.bd (K82 fun hbd => ?_)
 unfold F82
 rw [eq_s]
 by_cases h0 : l = []
 ·subst h0
  simp only [beq_self_eq_true, g0_t, pk_t, cd_t]
  exact fun _ => k h (But.refl _ _)
 ·rw [show (l == []) = false by simpa using h0]
  have h1 : (cs == []) = false := by
   cases cs with
   | nil => simp at h2
   | cons a b => rfl
  simp only [g0_f, eq_s, h1, pk_f, cd_f, F82_4]
  rw [lg_s tt9 rfl, eq_i, decide_eq_false (show ¬ ((cs.length : Nat) : Int) = 1 by omega)]
  simp only [g1_f, pk_f, cd_f, F82_7, cf_k]
  refine mks_ok (by omega) hc ha fun h1 f1 => ?_
  simp only [ex_t, List.getElem?_cons_zero, List.getElem?_cons_succ, oP_some]
  obtain ⟨i, ht, hz⟩ := tt158
  refine al_a ht fun r h2 hg f2 h3 h4 => ?_
  rw [hz] at hg
  refine sn_w hg (cs := asc cs) rfl (asc_len cs) (by simp) (asc_one cs) fun h3' hg3 f3 => ?_
  simp only [cd_t, cf_k]
  refine Ok.bd (K115 fun hbd => ?_)
  unfold F115
  refine tral_ok (by omega) hg3 100000 l (by omega) (by omega) ?_
  exact fun _ => k h3' ((f1.trans f2).over f3 (.inr fun z e => by cases e; exact Nat.le_trans f1.1 h3))
def blk : Bs := [32, 9, 10, 13]
theorem trimS_len (cs : Bs) : ∀ l : Bs, (trimS cs l).length ≤ l.length
 | [] => Nat.le_refl _
 | a :: l => by
  simp only [trimS]
  split
  ·have := trimS_len cs l
   rw [List.length_cons]; omega
  ·exact Nat.le_refl _
theorem blanks_ok {n : Nat} (hn : 4 ≤ n) {r : Nat} {s : Bs} {bad : Bool} {d : Int} {h : H} {K : V → H → Prop} (P : Prs h r s bad d) (hr : r < h.next) (hl : s.length < 50000)
  (k : ∀ h', Prs h' r (trimS blk s) bad d → But h h' (some r) → K (.b (decide ((trimS blk s).length < s.length))) h') : Ok Tryz.prog n 42 [.p r 0] h K := by
 obtain ⟨n, rfl⟩ := Nat.exists_eq_add_of_le' hn
 obtain ⟨ty, P⟩ := P
 refine Ok.bd (K42 fun hbd => ?_)
 unfold F42
 simp only [nl_p, fa_p, Nat.zero_add, c42]
 rw [l1_a P rfl, cf_k]
 refine trim_ok (cs := blk) (by omega) (by decide) (by decide) (by decide) hl fun h1 f1 => ?_
 have P1 := f1.get hr (by simp) P
 rw [lg_s tt9 rfl, l1_a P1 rfl, lg_s tt9 rfl, lt_i]
 refine s1_a P1 (by simp) rfl fun h2 hg f => ?_
 have e : decide ((((trimS blk s).length : Nat) : Int) < ((s.length : Nat) : Int)) = decide ((trimS blk s).length < s.length) := decide_eq_decide.2 ⟨fun h => by omega, fun h => by omega⟩
 rw [e]
 exact fun _ => k h2 ⟨ty, hg⟩ ((f1.none (some r)).trans f)
theorem con1_ok {n : Nat} (hn : 5 ≤ n) {l : Bs} {c : UInt8} {h : H} {K : V → H → Prop} (k : K (.b (decide (0 ≤ Lib.indexByte l c))) h) : Ok Tryz.prog n 112 [.s l, .s [c]] h K := by
 obtain ⟨n, rfl⟩ := Nat.exists_eq_add_of_le' hn
 refine Ok.bd (K112 fun hbd => ?_)
 unfold F112
 simp only [cf_k]
 refine K139 fun hbd => ?_
 unfold F139
 simp only [cf_k]
 refine idx1_ok (by omega) ?_
 simp only [ge_i]
 exact fun _ => k
def nmS : Bs := [97, 98, 99, 100, 101, 102, 103, 104, 105, 106, 107, 108, 109, 110, 111, 112, 113, 114, 115, 116, 117, 118, 119, 120, 121, 122, 65, 66, 67, 68, 69, 70, 71, 72, 73, 74, 75, 76, 77, 78, 79, 80, 81, 82, 83, 84, 85, 86, 87, 88, 89, 90, 95, 58, 48, 49, 50, 51, 52, 53, 54, 55, 56, 57, 45, 46]
def mrS : Bs := [48, 49, 50, 51, 52, 53, 54, 55, 56, 57, 45, 46]
def nameS (s : Bs) : Bs := s.take (s.length - (trimS nmS s).length)
def badN : Bs → Bool
 | [] => true
 | a :: _ => decide (0 ≤ Lib.indexByte mrS a)
theorem name_s_ok {n : Nat} (hn : 6 ≤ n) {r : Nat} {s : Bs} {bad : Bool} {d : Int} {h : H} {K : V → H → Prop} (P : Prs h r s bad d) (hr : r < h.next) (hl : s.length < 50000)
  (k : ∀ h', Prs h' r (trimS nmS s) (bad || badN (nameS s)) d → But h h' (some r) → K (.s (nameS s)) h') : Ok Tryz.prog n 107 [.p r 0] h K := by
 obtain ⟨n, rfl⟩ := Nat.exists_eq_add_of_le' hn
 obtain ⟨ty, P⟩ := P
 refine Ok.bd (K107 fun hbd => ?_)
 unfold F107
 simp only [nl_p, fa_p, Nat.zero_add, c107]
 rw [l1_a P rfl, cf_k]
 refine trim_ok (cs := nmS) (by omega) (by decide) (by decide) (by decide) hl fun h1 f1 => ?_
 have P1 := f1.get hr (by simp) P
 have hle := trimS_len nmS s
 rw [l1_a P1 rfl, l1_a P1 rfl, lg_s tt9 rfl, lg_s tt9 rfl, sb_64 (by omega), show ((s.length : Nat) : Int) - ((trimS nmS s).length : Nat) = ((s.length - (trimS nmS s).length : Nat) : Int) by omega, sc_s0 tt9 rfl (by omega), eq_s]
 have hnm : s.take (s.length - (trimS nmS s).length) = nameS s := rfl
 rw [hnm]
 -- the end
 have fin : ∀ {h2 : H} {b : Bool}, h2.mem.get r = some (.c [.s s, .b b, .i .i64 d] ty true) → But h1 h2 (some r) → b = (bad || badN (nameS s)) → F107_23 pw (mkX Tryz.prog) (Ok Tryz.prog (n + 5)) (fun v h => Bd h → K v h) (.p r 0) (.s (trimS nmS s)) (.s (nameS s)) h2 := by
  intro h2 b hg f hb
  unfold F107_23
  simp only [nl_p, fa_p, Nat.zero_add]
  refine s1_a hg (by simp) rfl fun h3 hg3 f3 => ?_
  subst hb
  exact fun _ => k h3 ⟨ty, hg3⟩ ((f1.none (some r)).trans (f.trans f3))
 have setb : badN (nameS s) = true → pw.s1 (.p r 1) (.b true) h1 fun h47 => F107_23 pw (mkX Tryz.prog) (Ok Tryz.prog (n + 5)) (fun v h => Bd h → K v h) (.p r 0) (.s (trimS nmS s)) (.s (nameS s)) h47 := by
  intro hb
  refine s1_a P1 (by simp) rfl fun h2 hg f => ?_
  exact fin hg f (by rw [hb, Bool.or_true])
 revert fin setb
 cases hs : nameS s with
 | nil =>
  intro fin setb
  simp only [beq_self_eq_true, g0_t, pk_t, cd_t]
  exact setb rfl
 | cons a l =>
  intro fin setb
  have : (a :: l == ([] : Bs)) = false := rfl
  rw [this]
  simp only [g0_f]
  rw [show pw.sc (mkX Tryz.prog) 9 (.s (a :: l)) none (some (.i .i64 1)) none = fun κ => κ (.s [a]) from funext fun κ => sc_s0 tt9 rfl (n := 1) (by simp)]
  dsimp only
  rw [cf_k]
  refine con1_ok (l := mrS) (by omega) ?_
  simp only [pk_f]
  cases hb : decide (0 ≤ Lib.indexByte mrS a) with
  | true =>
   simp only [cd_t]
   exact setb hb
  | false =>
   simp only [cd_f]
   exact fin P1 (But.refl _ _) (by simp only [badN, hb, Bool.or_false])
def badT (t : Bs) : Bool := (unE t).isNone || decide (0 ≤ Lib.indexByte t 60)
def outT (t : Bs) : Bs := (unE t).getD []
theorem text_ok {n : Nat} (hn : 10 ≤ n) {r : Nat} {s t : Bs} {bad : Bool} {d : Int} {h : H} {K : V → H → Prop} (P : Prs h r s bad d) (hr : r < h.next) (L : Low h) (hl : t.length < 100000)
  (k : ∀ h', Prs h' r s (bad || badT t) d → But h h' (some r) → K (.s (outT t)) h') : Ok Tryz.prog n 81 [.p r 0, .s t] h K := by
 obtain ⟨n, rfl⟩ := Nat.exists_eq_add_of_le' hn
 obtain ⟨ty, P⟩ := P
 refine Ok.bd (K81 fun hbd => ?_)
 unfold F81
 simp only [cf_k, c81]
 refine un_ok (by omega) L hl fun h1 f1 => ?_
 have P1 := f1.get hr (by simp) P
 have fin : ∀ {h2 : H} {b : Bool}, h2.mem.get r = some (.c [.s s, .b b, .i .i64 d] ty true) → But h1 h2 (some r) → b = (bad || badT t) → F81_11 pw (mkX Tryz.prog) (Ok Tryz.prog (n + 9)) (fun v h => Bd h → K v h) (.s (outT t)) h2 := by
  intro h2 b hg f hb
  unfold F81_11
  subst hb
  exact fun _ => k h2 ⟨ty, hg⟩ ((f1.none (some r)).trans f)
 have setb : badT t = true → pw.s1 (.p r 1) (.b true) h1 fun h26 => F81_11 pw (mkX Tryz.prog) (Ok Tryz.prog (n + 9)) (fun v h => Bd h → K v h) (.s (outT t)) h26 := by
  intro hb
  refine s1_a P1 (by simp) rfl fun h2 hg f => ?_
  exact fin hg f (by rw [hb, Bool.or_true])
 cases hu : unE t with
 | none =>
  have e1 : outT t = [] := by rw [outT, hu]; rfl
  have e2 : badT t = true := by rw [badT, hu]; rfl
  have := setb e2
  rw [e1] at this
  simp only [ex_t, List.getElem?_cons_zero, List.getElem?_cons_succ, oP_some, nt_b, Bool.not_false, g0_t, pk_t, cd_t, nl_p, fa_p, Nat.zero_add]
  exact this
 | some o =>
  have e1 : outT t = o := by rw [outT, hu]; rfl
  have e2 : badT t = decide (0 ≤ Lib.indexByte t 60) := by rw [badT, hu]; rfl
  rw [e1] at fin setb
  simp only [ex_t, List.getElem?_cons_zero, List.getElem?_cons_succ, oP_some, nt_b, Bool.not_true, g0_f]
  refine con1_ok (l := t) (by omega) ?_
  simp only [pk_f]
  cases hb : decide (0 ≤ Lib.indexByte t 60) with
  | true =>
   simp only [cd_t, nl_p, fa_p, Nat.zero_add]
   exact setb (by rw [e2, hb])
  | false =>
   simp only [cd_f]
   exact fin P1 (But.refl _ _) (by rw [e2, hb, Bool.or_false])
abbrev PS := Bs × Bool
def nmP (p : PS) : PS := (trimS nmS p.1, p.2 || badN (nameS p.1))
def blP (p : PS) : PS := (trimS blk p.1, p.2)
def tkP (t : Bs) (p : PS) : PS := (if hasP t p.1 = true ∧ p.2 = false then p.1.drop t.length else p.1, p.2)
def tkB (t : Bs) (p : PS) : Bool := hasP t p.1 && !p.2
def wtP (t : Bs) (p : PS) : PS := (if hasP t p.1 = true ∧ p.2 = false then p.1.drop t.length else p.1, p.2 || !hasP t p.1)
def txP (t : Bs) (p : PS) : PS := (p.1, p.2 || badT t)
def toP (c : UInt8) (p : PS) : Bs × PS := if p.2 = true then ([], (p.1, true)) else match cut1 c p.1 with
 | some (a, b) => (a, (b, false))
 | none => ([], (p.1, true))
def qtP (c : UInt8) (p : PS) : PS := txP (toP c p).1 (toP c p).2
def wordP (p : PS) : PS := if tkB [34] (blP (wtP [61] (blP (nmP p)))) = true then qtP 34 (tkP [34] (blP (wtP [61] (blP (nmP p))))) else qtP 39 (wtP [39] (tkP [34] (blP (wtP [61] (blP (nmP p))))))
theorem nmP_le (p : PS) : (nmP p).1.length ≤ p.1.length := trimS_len _ _
theorem blP_le (p : PS) : (blP p).1.length ≤ p.1.length := trimS_len _ _
theorem tkP_le (t : Bs) (p : PS) : (tkP t p).1.length ≤ p.1.length := by
 unfold tkP
 simp only
 split
 ·rw [List.length_drop]; omega
 ·omega
theorem wtP_le (t : Bs) (p : PS) : (wtP t p).1.length ≤ p.1.length := by
 unfold wtP
 simp only
 split
 ·rw [List.length_drop]; omega
 ·omega
theorem toP_le (c : UInt8) (p : PS) : (toP c p).1.length ≤ p.1.length ∧ (toP c p).2.1.length ≤ p.1.length := by
 unfold toP
 split
 ·exact ⟨by simp, Nat.le_refl _⟩
 ·split
  ·rename_i a b e
   have := cut1_len e
   exact ⟨by simp only; omega, by simp only; omega⟩
  ·exact ⟨by simp, Nat.le_refl _⟩
theorem quote_ok {n : Nat} (hn : 10 ≤ n) {r : Nat} {c : UInt8} {p : PS} {d : Int} {h : H} {K : V → H → Prop} (P : Prs h r p.1 p.2 d) (hr : r < h.next) (hr16 : 16 ≤ r) (L : Low h) (hl : p.1.length < 50000)
  (k : ∀ h', Prs h' r (qtP c p).1 (qtP c p).2 d → But h h' (some r) → K (.t []) h') : F108_11 pw (mkX Tryz.prog) (Ok Tryz.prog n) (fun v h => Bd h → K v h) (.p r 0) (.s [c]) h := by
 unfold F108_11
 simp only [cf_k]
 have hle := toP_le c p
 have go : ∀ h1, Prs h1 r (toP c p).2.1 (toP c p).2.2 d → But h h1 (some r) → Ok Tryz.prog n 81 [.p r 0, .s (toP c p).1] h1 fun _ h18 => Bd h18 → K (.t []) h18 := by
  intro h1 P1 f1
  refine text_ok hn P1 (Nat.lt_of_lt_of_le hr f1.1) (L.keep f1 (fun q e => by cases e; exact hr16)) (by omega) fun h2 P2 f2 => ?_
  exact fun _ => k h2 P2 (f1.trans f2)
 refine to1_ok (by omega) P (by omega) (fun h1 a b e hb P1 f1 => ?_) (fun h1 e P1 f1 => ?_)
 ·have et : toP c p = (a, (b, false)) := by
   unfold toP
   rw [hb, if_neg (by decide), e]
  rw [et] at go
  exact go h1 P1 f1
 ·have et : toP c p = ([], (p.1, true)) := by
   unfold toP
   by_cases hb : p.2 = true
   ·rw [if_pos hb]
   ·rw [if_neg hb]
    rcases e with e | e
    ·rw [e]
    ·exact absurd e hb
  rw [et] at go
  exact go h1 P1 f1
theorem word_ok {n : Nat} (hn : 11 ≤ n) {r : Nat} {p : PS} {d : Int} {h : H} {K : V → H → Prop} (P : Prs h r p.1 p.2 d) (hr : r < h.next) (hr16 : 16 ≤ r) (L : Low h) (hl : p.1.length < 50000)
  (k : ∀ h', Prs h' r (wordP p).1 (wordP p).2 d → But h h' (some r) → K (.t []) h') : Ok Tryz.prog n 108 [.p r 0] h K := by
 obtain ⟨n, rfl⟩ := Nat.exists_eq_add_of_le' hn
 refine Ok.bd (K108 fun hbd => ?_)
 unfold F108
 simp only [cf_k, c108]
 have l1 := nmP_le p
 have l2 := blP_le (nmP p)
 have l3 := wtP_le [61] (blP (nmP p))
 have l4 := blP_le (wtP [61] (blP (nmP p)))
 have l5 := tkP_le [34] (blP (wtP [61] (blP (nmP p))))
 have l6 := wtP_le [39] (tkP [34] (blP (wtP [61] (blP (nmP p)))))
 refine name_s_ok (by omega) P hr hl fun h1 P1 f1 => ?_
 have P1 : Prs h1 r (nmP p).1 (nmP p).2 d := P1
 refine blanks_ok (by omega) P1 (Nat.lt_of_lt_of_le hr f1.1) (by omega) fun h2 P2 f2 => ?_
 have P2 : Prs h2 r (blP (nmP p)).1 (blP (nmP p)).2 d := P2
 have f2 := f1.trans f2
 refine want_ok (by omega) P2 fun h3 P3 f3 => ?_
 have P3 : Prs h3 r (wtP [61] (blP (nmP p))).1 (wtP [61] (blP (nmP p))).2 d := P3
 have f3 := f2.trans f3
 refine blanks_ok (by omega) P3 (Nat.lt_of_lt_of_le hr f3.1) (by omega) fun h4 P4 f4 => ?_
 have P4 : Prs h4 r (blP (wtP [61] (blP (nmP p)))).1 (blP (wtP [61] (blP (nmP p)))).2 d := P4
 have f4 := f3.trans f4
 refine take_ok (by omega) P4 fun h5 P5 f5 => ?_
 have P5 : Prs h5 r (tkP [34] (blP (wtP [61] (blP (nmP p))))).1 (tkP [34] (blP (wtP [61] (blP (nmP p))))).2 d := P5
 have f5 := f4.trans f5
 have low : ∀ {h' : H}, But h h' (some r) → Low h' := fun f => L.keep f (fun q e => by cases e; exact hr16)
 have eb : (hasP [34] (blP (wtP [61] (blP (nmP p)))).1 && !(blP (wtP [61] (blP (nmP p)))).2) = tkB [34] (blP (wtP [61] (blP (nmP p)))) := rfl
 rw [eb]
 cases hb : tkB [34] (blP (wtP [61] (blP (nmP p)))) with
 | true =>
  rw [cd_t]
  refine quote_ok (by omega) P5 (Nat.lt_of_lt_of_le hr f5.1) hr16 (low f5) (by omega) fun h6 P6 f6 => k h6 ?_ (f5.trans f6)
  rw [wordP, if_pos hb]
  exact P6
 | false =>
  rw [cd_f]
  refine want_ok (by omega) P5 fun h6 P6 f6 => ?_
  have P6 : Prs h6 r (wtP [39] (tkP [34] (blP (wtP [61] (blP (nmP p)))))).1 (wtP [39] (tkP [34] (blP (wtP [61] (blP (nmP p)))))).2 d := P6
  have f6 := f5.trans f6
  refine quote_ok (by omega) P6 (Nat.lt_of_lt_of_le hr f6.1) hr16 (low f6) (by omega) fun h7 P7 f7 => k h7 ?_ (f6.trans f7)
  rw [wordP, if_neg (by rw [hb]; decide)]
  exact P7
def opL : Nat → PS → Bool × PS
 | 0, p => (true, p)
 | m + 1, p => if p.2 = true then (true, p) else if tkB [47, 62] (blP p) = true then (true, tkP [47, 62] (blP p)) else if tkB [62] (tkP [47, 62] (blP p)) = true then (false, tkP [62] (tkP [47, 62] (blP p))) else
  if (blP p).1.length < p.1.length then opL m (wordP (tkP [62] (tkP [47, 62] (blP p)))) else opL m ((tkP [62] (tkP [47, 62] (blP p))).1, true)
theorem wordP_le (p : PS) : (wordP p).1.length ≤ p.1.length := by
 have l1 := nmP_le p
 have l2 := blP_le (nmP p)
 have l3 := wtP_le [61] (blP (nmP p))
 have l4 := blP_le (wtP [61] (blP (nmP p)))
 have l5 := tkP_le [34] (blP (wtP [61] (blP (nmP p))))
 have l6 := wtP_le [39] (tkP [34] (blP (wtP [61] (blP (nmP p)))))
 unfold wordP
 split
 ·have := (toP_le 34 (tkP [34] (blP (wtP [61] (blP (nmP p)))))).2
  show (toP 34 _).2.1.length ≤ _
  omega
 ·have := (toP_le 39 (wtP [39] (tkP [34] (blP (wtP [61] (blP (nmP p))))))).2
  show (toP 39 _).2.1.length ≤ _
  omega
theorem opl_ok {n : Nat} (hn : 12 ≤ n) {r : Nat} {d : Int} {hS : H} {nm : Bs} {K : V → H → Prop} (hr16 : 16 ≤ r) (L : Low hS) :
  ∀ (m : Nat) (p : PS) (h : H), Prs h r p.1 p.2 d → r < h.next → But hS h (some r) → p.1.length < 50000 → ((p.2 = true ∧ 1 ≤ m) ∨ p.1.length + 2 ≤ m) →
   (∀ h', Prs h' r (opL m p).2.1 (opL m p).2.2 d → But hS h' (some r) → K (.t [.s nm, .b (opL m p).1]) h') →
   F78_12 pw (mkX Tryz.prog) (Ok Tryz.prog n) (fun v h => Bd h → K v h) m (.p r 0) (.s nm) h := by
 intro m
 induction m with
 | zero => intro p h _ _ _ _ hm; omega
 | succ m ih =>
  intro p h P hr f hl hm k
  have P0 := P
  obtain ⟨ty, hg⟩ := P0
  show pw.nl _ _
  simp only [nl_p, fa_p, Nat.zero_add]
  rw [l1_a hg rfl, nt_b]
  by_cases hb : p.2 = true
  ·rw [hb, Bool.not_true, cd_f]
   unfold F78_7
   rw [opL, if_pos hb] at k
   exact fun _ => k h P f
  ·have hb' : p.2 = false := by simpa using hb
   rw [hb', Bool.not_false, cd_t]
   rw [opL, if_neg hb] at k
   unfold F78_15
   simp only [cf_k, c78]
   have l1 := blP_le p
   have l2 := tkP_le [47, 62] (blP p)
   have l3 := tkP_le [62] (tkP [47, 62] (blP p))
   have l4 := wordP_le (tkP [62] (tkP [47, 62] (blP p)))
   refine blanks_ok (by omega) P hr hl fun h1 P1 f1 => ?_
   have P1 : Prs h1 r (blP p).1 (blP p).2 d := P1
   have g1 := f.trans f1
   refine take_ok (by omega) P1 fun h2 P2 f2 => ?_
   have P2 : Prs h2 r (tkP [47, 62] (blP p)).1 (tkP [47, 62] (blP p)).2 d := P2
   have g2 := g1.trans f2
   have e1 : (hasP [47, 62] (blP p).1 && !(blP p).2) = tkB [47, 62] (blP p) := rfl
   rw [e1]
   cases h1b : tkB [47, 62] (blP p) with
   | true =>
    rw [if_pos h1b] at k
    rw [cd_t]
    exact fun _ => k h2 P2 g2
   | false =>
    rw [if_neg (by rw [h1b]; decide)] at k
    rw [cd_f]
    refine take_ok (by omega) P2 fun h3 P3 f3 => ?_
    have P3 : Prs h3 r (tkP [62] (tkP [47, 62] (blP p))).1 (tkP [62] (tkP [47, 62] (blP p))).2 d := P3
    have g3 := g2.trans f3
    have r3 : r < h3.next := Nat.lt_of_lt_of_le hr (Nat.le_trans f1.1 (Nat.le_trans f2.1 f3.1))
    have e2 : (hasP [62] (tkP [47, 62] (blP p)).1 && !(tkP [47, 62] (blP p)).2) = tkB [62] (tkP [47, 62] (blP p)) := rfl
    rw [e2]
    cases h2b : tkB [62] (tkP [47, 62] (blP p)) with
    | true =>
     rw [if_pos h2b] at k
     rw [cd_t]
     exact fun _ => k h3 P3 g3
    | false =>
     rw [if_neg (by rw [h2b]; decide)] at k
     rw [cd_f]
     have e3 : decide ((trimS blk p.1).length < p.1.length) = decide ((blP p).1.length < p.1.length) := rfl
     rw [e3]
     by_cases hs : (blP p).1.length < p.1.length
     ·rw [if_pos hs] at k
      simp only [decide_eq_true hs, nt_b, Bool.not_true, cd_f]
      refine word_ok (by omega) P3 r3 hr16 (L.keep g3 (fun q e => by cases e; exact hr16)) (by omega) fun h4 P4 f4 => ?_
      exact ih _ h4 P4 (Nat.lt_of_lt_of_le r3 f4.1) (g3.trans f4) (by omega) (.inr (by
       rcases hm with hm | hm
       ·exact absurd hm.1 hb
       ·omega)) k
     ·rw [if_neg hs] at k
      simp only [decide_eq_false hs, nt_b, Bool.not_false, cd_t, nl_p, fa_p, Nat.zero_add]
      obtain ⟨ty3, hg3⟩ := P3
      refine s1_a hg3 (by simp) rfl fun h4 hg4 f4 => ?_
      exact ih ((tkP [62] (tkP [47, 62] (blP p))).1, true) h4 ⟨ty3, hg4⟩ (Nat.lt_of_lt_of_le r3 f4.1) (g3.trans f4) (by show (tkP _ _).1.length < _; omega) (.inl ⟨rfl, by
       rcases hm with hm | hm
       ·exact absurd hm.1 hb
       ·omega⟩) k
def openP (p : PS) : Bool × PS := opL 100000 (nmP p)
theorem open_ok {n : Nat} (hn : 13 ≤ n) {r : Nat} {p : PS} {d : Int} {h : H} {K : V → H → Prop} (P : Prs h r p.1 p.2 d) (hr : r < h.next) (hr16 : 16 ≤ r) (L : Low h) (hl : p.1.length < 50000)
  (k : ∀ h', Prs h' r (openP p).2.1 (openP p).2.2 d → But h h' (some r) → K (.t [.s (nameS p.1), .b (openP p).1]) h') : Ok Tryz.prog n 78 [.p r 0] h K := by
 obtain ⟨n, rfl⟩ := Nat.exists_eq_add_of_le' hn
 refine Ok.bd (K78 fun hbd => ?_)
 unfold F78
 rw [cf_k]
 have l1 := nmP_le p
 refine name_s_ok (by omega) P hr hl fun h1 P1 f1 => ?_
 have P1 : Prs h1 r (nmP p).1 (nmP p).2 d := P1
 exact opl_ok (by omega) hr16 L 100000 (nmP p) h1 P1 (Nat.lt_of_lt_of_le hr f1.1) f1 (by omega) (.inr (by omega)) k
def lastB (l : Bs) (c : UInt8) : Nat → Int
 | 0 => -1
 | i + 1 => if l[i]? = some c then (i : Int) else lastB l c i
theorem lastB_ge (l : Bs) (c : UInt8) : ∀ i, -1 ≤ lastB l c i ∧ lastB l c i < i
 | 0 => by simp [lastB]
 | i + 1 => by
  have := lastB_ge l c i
  simp only [lastB]
  split <;> omega
theorem lbl_ok {n : Nat} {l : Bs} {c : UInt8} (hl : l.length < 50000) {h : H} {K : V → H → Prop} (k : K (.i .i64 (lastB l c l.length)) h) :
  ∀ (m i : Nat), i < m → i ≤ l.length → lastB l c i = lastB l c l.length → F135_10 pw (mkX Tryz.prog) (Ok Tryz.prog n) (fun v h => Bd h → K v h) m (.s l) (.i .u8 c.toNat) (.i .i64 ((i : Int) - 1)) h := by
 intro m
 induction m with
 | zero => intro i hm; omega
 | succ m ih =>
  intro i hm hi e
  show pw.ge _ _ _ _ _
  rw [ge_i]
  match i, hm, hi, e with
  | 0, hm, hi, e =>
   rw [decide_eq_false (show ¬ (0 : Int) ≤ ((0 : Nat) : Int) - 1 by omega), cd_f]
   unfold F135_4
   rw [← e] at k
   exact fun _ => k
  | i + 1, hm, hi, e =>
   rw [decide_eq_true (show (0 : Int) ≤ ((i + 1 : Nat) : Int) - 1 by omega), cd_t]
   unfold F135_14
   have hlt : i < l.length := by omega
   have hsp : l[i]? = some (l[i]'hlt) := List.getElem?_eq_getElem hlt
   rw [show ((i + 1 : Nat) : Int) - 1 = (i : Int) by omega, ix_s tt9 rfl hsp, eq_i]
   simp only [lastB] at e
   by_cases hc : l[i]'hlt = c
   ·rw [decide_eq_true (by rw [hc]), cd_t]
    rw [if_pos (by rw [hsp, hc])] at e
    rw [← e] at k
    exact fun _ => k
   ·have hne : ¬ ((l[i]'hlt).toNat : Int) = (c.toNat : Int) := fun h => hc (UInt8.toNat.inj (by omega))
    rw [decide_eq_false hne, cd_f]
    rw [if_neg (by rw [hsp]; exact fun h => hc (Option.some.inj h))] at e
    unfold F135_18
    rw [sb_64 (by omega)]
    exact ih i (by omega) (by omega) e
theorem last_ok {n : Nat} (hn : 2 ≤ n) {l : Bs} {c : UInt8} (hl : l.length < 50000) {h : H} {K : V → H → Prop} (k : K (.i .i64 (lastB l c l.length)) h) : Ok Tryz.prog n 109 [.s l, .s [c]] h K := by
 obtain ⟨n, rfl⟩ := Nat.exists_eq_add_of_le' hn
 refine Ok.bd (K109 fun hbd => ?_)
 unfold F109
 rw [lg_s tt9 rfl, eq_i, decide_eq_false (show ¬ ((([c] : Bs).length : Nat) : Int) = 0 by simp), cd_f, eq_i, decide_eq_true (show ((([c] : Bs).length : Nat) : Int) = 1 by simp), cd_t]
 rw [show pw.ix (mkX Tryz.prog) 9 (.s [c]) (.i .i64 0) = fun κ => κ (.i .u8 c.toNat) from funext fun κ => ix_s tt9 rfl (n := 0) rfl]
 dsimp only
 rw [cf_k]
 refine Ok.bd (K135 fun hbd => ?_)
 unfold F135
 rw [lg_s tt9 rfl, sb_64 (by omega)]
 exact lbl_ok hl (fun _ => k) 100000 l.length (by omega) (Nat.le_refl _) rfl
def plainS (l : Bs) : Bs := l.drop (lastB l 58 l.length + 1).toNat
theorem plain_ok {n : Nat} (hn : 3 ≤ n) {l : Bs} (hl : l.length < 50000) {h : H} {K : V → H → Prop} (k : K (.s (plainS l)) h) : Ok Tryz.prog n 79 [.s l] h K := by
 obtain ⟨n, rfl⟩ := Nat.exists_eq_add_of_le' hn
 refine Ok.bd (K79 fun hbd => ?_)
 unfold F79
 simp only [cf_k, c79]
 refine last_ok (by omega) hl ?_
 have hg := lastB_ge l 58 l.length
 rw [ad_64 (by omega), show lastB l 58 l.length + 1 = (((lastB l 58 l.length + 1).toNat : Nat) : Int) by omega, sc_s1 tt9 rfl (by omega)]
 exact fun _ => k
theorem sc_d' {l : Bs} {m : Nat} (hm : m ≤ l.length) {κ : V → Prop} : pw.sc (mkX Tryz.prog) 9 (.s l) (some (.i .i64 (m : Int))) none none κ = κ (.s (l.drop m)) := sc_s1 tt9 rfl hm
theorem cut_over {n z : Nat} (hn : 1 ≤ n) (hz : z < 1000000) {h : H} {K : V → H → Prop} (k : K (.i .i64 (((z + 16) / 8 : Nat) : Int)) h) : Ok Tryz.prog n 161 [.i .i64 (z : Int)] h K := by
 obtain ⟨n, rfl⟩ := Nat.exists_eq_add_of_le' hn
 refine Ok.bd (K161 fun hbd => ?_)
 unfold F161
 rw [ad_64 (by omega), qu_64 (by omega), show ((z : Int) + 16) / 8 = (((z + 16) / 8 : Nat) : Int) by omega]
 exact fun _ => k
set_option maxHeartbeats 4000000 in
theorem hs_ok {n : Nat} (hn : 1 ≤ n) {x y : UInt8} {h : H} {K : V → H → Prop} (k : K (.t [.i .u32 (rkH x y), .i .u32 637696617]) h) : Ok Tryz.prog n 187 [.s [x, y]] h K := by
 obtain ⟨n, rfl⟩ := Nat.exists_eq_add_of_le' hn
 refine Ok.bd (K187 fun hbd => ?_)
 unfold F187
 have i0 : ∀ κ : V → Prop, pw.ix (mkX Tryz.prog) 9 (.s [x, y]) (.i .i64 0) κ = κ (.i .u8 x.toNat) := fun κ => ix_s tt9 rfl (n := 0) rfl
 have i1 : ∀ κ : V → Prop, pw.ix (mkX Tryz.prog) 9 (.s [x, y]) (.i .i64 1) κ = κ (.i .u8 y.toNat) := fun κ => ix_s tt9 rfl (n := 1) rfl
 have lg : ∀ κ : V → Prop, pw.lg (mkX Tryz.prog) 9 (.s [x, y]) κ = κ (.i .i64 2) := fun κ => lg_s tt9 rfl
 have hx := x.toNat_lt
 have hy := y.toNat_lt
 rw [show (100000 : Nat) = 99997 + 1 + 1 + 1 from rfl, S187_57, lg, lt_i, decide_eq_true (by decide), cd_t]
 unfold F187_61
 rw [mu_i, i0, ci_i, ad_i]
 unfold F187_65
 rw [ad_64 (by decide), S187_57, lg, lt_i, decide_eq_true (by decide), cd_t]
 unfold F187_61
 rw [mu_i, show (0 : Int) + 1 = 1 from rfl, i1, ci_i, ad_i]
 unfold F187_65
 rw [ad_64 (by decide), S187_57, lg, lt_i, decide_eq_false (by decide), cd_f]
 have e1 : IntKind.u32.wrap (IntKind.u32.wrap (IntKind.u32.wrap (IntKind.u32.wrap (0 * 16777619) + IntKind.u32.wrap (x.toNat : Int)) * 16777619) + IntKind.u32.wrap (y.toNat : Int)) = rkH x y := by
  simp only [wrap_u32', rkH]
  omega
 rw [e1]
 unfold F187_5
 rw [lg, show (100000 : Nat) = 99997 + 1 + 1 + 1 from rfl, S187_20, gt_i, decide_eq_true (by decide), cd_t]
 unfold F187_25
 rw [an_i, show IntKind.i64.wrap (BitVec.ofInt IntKind.i64.bits 2 &&& BitVec.ofInt IntKind.i64.bits 1).toNat = 0 from by decide, ne_i, show (!decide ((0 : Int) = 0)) = false from rfl, cd_f]
 unfold F187_38
 rw [mu_i, show IntKind.u32.wrap (16777619 * 16777619) = 637696617 from by decide]
 unfold F187_30
 rw [show (1 : Int) = ((1 : Nat) : Int) from rfl, sr_k 1 (by decide), show ((2 : Int) / 2 ^ 1) = 1 from rfl, S187_20, gt_i, decide_eq_true (by decide), cd_t]
 unfold F187_25
 rw [show ((1 : Nat) : Int) = 1 from rfl, an_i, show IntKind.i64.wrap (BitVec.ofInt IntKind.i64.bits 1 &&& BitVec.ofInt IntKind.i64.bits 1).toNat = 1 from by decide, ne_i, show (!decide ((1 : Int) = 0)) = true from rfl, cd_t, mu_i, show IntKind.u32.wrap (1 * 637696617) = 637696617 from by decide]
 unfold F187_38
 rw [mu_i]
 unfold F187_30
 rw [show (1 : Int) = ((1 : Nat) : Int) from rfl, sr_k 1 (by decide), show (((1 : Nat) : Int) / 2 ^ 1) = 0 from rfl, S187_20, gt_i, decide_eq_false (by decide), cd_f]
 exact fun _ => k
set_option maxHeartbeats 4000000 in
theorem rkl_ok {n : Nat} {l : Bs} {x y : UInt8} {h : H} {K : V → H → Prop} (hl : l.length < 100000) :
  ∀ (m i : Nat) (a b : UInt8), l.length - i < m → 2 ≤ i → i ≤ l.length → l[i - 2]? = some a → l[i - 1]? = some b → K (.i .i64 (sh (i - 1) (ix2 x y (l.drop (i - 1))))) h →
   F162_33 pw (mkX Tryz.prog) (Ok Tryz.prog n) (fun v h => Bd h → K v h) m (.s l) (.s [x, y]) (.i .u32 (rkH x y)) (.i .u32 637696617) (.i .i64 2) (.i .u32 (rkH a b)) (.i .i64 i) h := by
 intro m
 induction m with
 | zero => intro i a b hm; omega
 | succ m ih =>
  intro i a b hm h2 hi ha hb k
  rw [S162_33, lg_s tt9 rfl, lt_i]
  by_cases hlt : i < l.length
  ·rw [decide_eq_true (show (i : Int) < (l.length : Int) by omega), cd_t]
   have hs := List.getElem?_eq_getElem hlt
   generalize l[i] = c at hs
   unfold F162_41
   rw [mu_i, ix_s tt9 rfl hs, ci_i, ad_i, sb_64 (by omega), show (i : Int) - 2 = ((i - 2 : Nat) : Int) by omega, ix_s tt9 rfl ha, ci_i, mu_i, sb_i, ad_64 (by omega), show (i : Int) + 1 = ((i + 1 : Nat) : Int) by omega]
   have hx := a.toNat_lt
   have hy := b.toNat_lt
   have hz := c.toNat_lt
   have e1 : IntKind.u32.wrap (IntKind.u32.wrap (IntKind.u32.wrap (rkH a b * 16777619) + IntKind.u32.wrap (c.toNat : Int)) - IntKind.u32.wrap (637696617 * IntKind.u32.wrap (a.toNat : Int))) = rkH b c := by
    simp only [wrap_u32', rkH]
    omega
   rw [e1, eq_i]
   have hsl : (l.drop (i - 1)).take (i + 1 - (i - 1)) = [b, c] := by
    rw [drop_at hb, show i - 1 + 1 = i by omega, drop_at hs, show i + 1 - (i - 1) = 2 by omega]; rfl
   by_cases hm2 : b = x ∧ c = y
   ·obtain ⟨rfl, rfl⟩ := hm2
    rw [decide_eq_true rfl]
    simp only [g1_t]
    rw [sb_64 (by omega), show ((i + 1 : Nat) : Int) - 2 = ((i - 1 : Nat) : Int) by omega, sc_s2 tt9 rfl (by omega) (by omega), hsl, eq_s]
    simp only [beq_self_eq_true, pk_t, cd_t]
    rw [sb_64 (by omega), show ((i + 1 : Nat) : Int) - 2 = ((i - 1 : Nat) : Int) by omega]
    rw [ix2_at hb (by rw [show i - 1 + 1 = i by omega]; exact hs), sh_n (Int.le_refl 0), Int.zero_add] at k
    exact fun _ => k
   ·have k2 : K (.i .i64 (sh (i + 1 - 1) (ix2 x y (l.drop (i + 1 - 1))))) h := by
     rw [ix2_step (l := l) (i := i - 1) (by omega) (fun e => hm2 ⟨by rw [hb] at e; exact Option.some.inj e.1, by rw [show i - 1 + 1 = i by omega, hs] at e; exact Option.some.inj e.2⟩), sh_sh (ix2_ge _ _ _), show i - 1 + 1 = i by omega] at k
     rw [Nat.add_sub_cancel]
     exact k
    have nxt := ih (i + 1) b c (by omega) (by omega) (by omega) (by rw [show i + 1 - 2 = i - 1 by omega]; exact hb) (by rw [Nat.add_sub_cancel]; exact hs) k2
    by_cases he : rkH b c = rkH x y
    ·rw [decide_eq_true he]
     simp only [g1_t]
     rw [sb_64 (by omega), show ((i + 1 : Nat) : Int) - 2 = ((i - 1 : Nat) : Int) by omega, sc_s2 tt9 rfl (by omega) (by omega), hsl, eq_s]
     have hf : (([b, c] : Bs) == [x, y]) = false := by
      cases hh : (([b, c] : Bs) == [x, y]) with
      | false => rfl
      | true =>
       have := eq_of_beq hh
       simp only [List.cons.injEq, and_true] at this
       exact absurd this hm2
     rw [hf]
     simp only [pk_t, cd_f]
     exact nxt
    ·rw [decide_eq_false he]
     simp only [g1_f, pk_f, cd_f]
     exact nxt
  ·rw [decide_eq_false (show ¬ (i : Int) < (l.length : Int) by omega), cd_f]
   rw [ix2_short (l := l.drop (i - 1)) (by rw [List.length_drop]; omega), sh_m] at k
   exact fun _ => k
set_option maxHeartbeats 4000000 in
theorem rk_ok {n : Nat} (hn : 2 ≤ n) {l : Bs} {x y : UInt8} {h : H} {K : V → H → Prop} (hl : l.length < 100000) (h2 : 2 ≤ l.length) (k : K (.i .i64 (ix2 x y l)) h) : Ok Tryz.prog n 162 [.s l, .s [x, y]] h K := by
 obtain ⟨n, rfl⟩ := Nat.exists_eq_add_of_le' (show 1 ≤ n by omega)
 refine Ok.bd (K162 fun hbd => ?_)
 unfold F162
 simp only [cf_k]
 refine hs_ok (by omega) ?_
 simp only [ex_t, List.getElem?_cons_zero, List.getElem?_cons_succ, oP_some]
 obtain ⟨a, b, r, rfl⟩ : ∃ a b r, l = a :: b :: r := by
  match l, h2 with
  | a :: b :: r, _ => exact ⟨a, b, r, rfl⟩
 have hg0 : (a :: b :: r)[0]? = some a := rfl
 have hg1 : (a :: b :: r)[1]? = some b := rfl
 generalize hL : a :: b :: r = l at *
 have i0 : ∀ κ : V → Prop, pw.ix (mkX Tryz.prog) 9 (.s l) (.i .i64 0) κ = κ (.i .u8 a.toNat) := fun κ => ix_s tt9 rfl (n := 0) hg0
 have i1 : ∀ κ : V → Prop, pw.ix (mkX Tryz.prog) 9 (.s l) (.i .i64 1) κ = κ (.i .u8 b.toNat) := fun κ => ix_s tt9 rfl (n := 1) hg1
 have lg : ∀ κ : V → Prop, pw.lg (mkX Tryz.prog) 9 (.s [x, y]) κ = κ (.i .i64 2) := fun κ => lg_s tt9 rfl
 have hx := a.toNat_lt
 have hy := b.toNat_lt
 rw [lg, show (100000 : Nat) = 99997 + 1 + 1 + 1 from rfl, S162_119, lt_i, decide_eq_true (by decide), cd_t]
 unfold F162_127
 rw [mu_i, i0, ci_i, ad_i]
 unfold F162_135
 rw [ad_64 (by decide), S162_119, lt_i, decide_eq_true (by decide), cd_t]
 unfold F162_127
 rw [mu_i, show (0 : Int) + 1 = 1 from rfl, i1, ci_i, ad_i]
 unfold F162_135
 rw [ad_64 (by decide), S162_119, lt_i, decide_eq_false (by decide), cd_f]
 have e1 : IntKind.u32.wrap (IntKind.u32.wrap (IntKind.u32.wrap (IntKind.u32.wrap (0 * 16777619) + IntKind.u32.wrap (a.toNat : Int)) * 16777619) + IntKind.u32.wrap (b.toNat : Int)) = rkH a b := by
  simp only [wrap_u32', rkH]
  omega
 rw [e1]
 unfold F162_15
 rw [eq_i]
 have hsl : l.take 2 = [a, b] := by rw [← hL]; rfl
 have long : ¬ (a = x ∧ b = y) → F162_22 pw (mkX Tryz.prog) (Ok Tryz.prog n) (fun v h => Bd h → K v h) (.s l) (.s [x, y]) (.i .u32 (rkH x y)) (.i .u32 637696617) (.i .i64 2) (.i .u32 (rkH a b)) h := by
  intro hne
  unfold F162_22
  refine rkl_ok hl 100000 2 a b (by omega) (by omega) (by omega) hg0 hg1 ?_
  have := ix2_step (x := x) (y := y) (l := l) (i := 0) (by omega) (fun e => hne ⟨by rw [hg0] at e; exact Option.some.inj e.1, by rw [Nat.zero_add, hg1] at e; exact Option.some.inj e.2⟩)
  rw [List.drop_zero, Nat.zero_add] at this
  rw [this] at k
  exact k
 by_cases hm2 : a = x ∧ b = y
 ·obtain ⟨rfl, rfl⟩ := hm2
  rw [decide_eq_true rfl]
  simp only [g1_t]
  rw [show (2 : Int) = ((2 : Nat) : Int) from rfl, sc_s0 tt9 rfl h2, hsl, eq_s]
  simp only [beq_self_eq_true, pk_t, cd_t]
  rw [← hL, ix2_hit] at k
  exact fun _ => k
 ·by_cases he : rkH a b = rkH x y
  ·rw [decide_eq_true he]
   simp only [g1_t]
   rw [show (2 : Int) = ((2 : Nat) : Int) from rfl, sc_s0 tt9 rfl h2, hsl, eq_s]
   have hf : (([a, b] : Bs) == [x, y]) = false := by
    cases hh : (([a, b] : Bs) == [x, y]) with
    | false => rfl
    | true =>
     have := eq_of_beq hh
     simp only [List.cons.injEq, and_true] at this
     exact absurd this hm2
   rw [hf]
   simp only [pk_t, cd_f]
   exact long hm2
  ·rw [decide_eq_false he]
   simp only [g1_f, pk_f, cd_f]
   exact long hm2
end Go.Proofs.YtbkhielalbbopaaGreatDoor.Wb
