/- What a text's signs, read by the program, come to. -/
import Derived.Test.YtbkhielalbbopaaGreatDoorZs7
set_option linter.unusedSimpArgs false
set_option linter.unusedVariables false
set_option linter.unusedSectionVars false
set_option linter.unnecessarySimpa false
set_option maxRecDepth 100000
namespace Go.Am.Xm
open Go.Proofs.YtbkhielalbbopaaGreatDoor.Wb in
theorem enc_four (n : Nat) : (Utf8.encode (n : Int)).data.toList.length ≤ 4 := by
  by_cases h : n < 128
  · rw [enc_lo h, List.length_singleton]; omega
  · obtain ⟨a, b, r, e, _, hr⟩ := enc_hi (show 128 ≤ n by omega)
    rw [e]
    simp only [List.length_cons]; omega
theorem sgn_four {s r : Bs} (h : sgn s = some r) : r.length ≤ 4 := by
  have hb : ∀ {d : Bs} {b : Nat} {r : Bs}, numB d b = some r → r.length ≤ 4 := by
    intro d b r h
    unfold numB at h
    split at h
    · cases h
    · split at h
      · cases h
      · split at h
        · rw [← Option.some.inj h]; exact enc_four _
        · cases h
  have hn : ∀ {s r : Bs}, num s = some r → r.length ≤ 4 := by
    intro s r h
    unfold num at h
    split at h
    · cases h
    · split at h
      · exact hb h
      · exact hb h
  unfold sgn at h
  split at h
  · rw [← Option.some.inj h]; decide
  split at h
  · rw [← Option.some.inj h]; decide
  split at h
  · rw [← Option.some.inj h]; decide
  split at h
  · rw [← Option.some.inj h]; decide
  split at h
  · rw [← Option.some.inj h]; decide
  split at h
  · cases h
  · split at h
    · exact hn h
    · cases h
end Go.Am.Xm
namespace Go.Proofs.YtbkhielalbbopaaGreatDoor.Wb
open Go Go.Am Go.Am.Xm

/-- A builder made behind a heap: what stood stays. -/
structure Bh (hS h : H) (r : Nat) (s : V) (bs : Bs) : Prop where
  b : Bld h 165 5 r s bs
  f : But hS h none
  r0 : hS.next ≤ r
  s0 : ∀ z, vblk s = some z → hS.next ≤ z
theorem Bh.wr {hS h : H} {r : Nat} {s : V} {bs : Bs} (B : Bh hS h r s bs) {n : Nat} (hn : 3 ≤ n) {l : Bs} (hl : bs.length + l.length ≤ 1099511627776) {K : V → H → Prop}
    (k : ∀ h' s', Bh hS h' r s' (bs ++ l) → K (.t [.i .i64 l.length, .ni]) h') : Ok Tryz.prog n 118 [.p r 0, .s l] h K := by
  refine wr_ok hn B.b hl fun h' s' b' f' e' => k h' s' ⟨b', ?_, B.r0, fun z hz => ?_⟩
  · refine ⟨Nat.le_trans B.f.1 f'.1, fun p hp hq => ?_, f'.2.2 ∘ B.f.2.2⟩
    rw [f'.2.1 p (Nat.lt_of_lt_of_le hp B.f.1) (by have := B.r0; omega) (fun e => by have := B.s0 p e.symm; omega), B.f.2.1 p hp hq]
  · rcases e' with e | e
    · exact B.s0 z (e ▸ hz)
    · exact Nat.le_trans B.f.1 (e z hz)
theorem Bh.str {hS h : H} {r : Nat} {s : V} {bs : Bs} (B : Bh hS h r s bs) {n : Nat} (hn : 1 ≤ n) (hl : bs.length ≤ 1099511627776) {K : V → H → Prop}
    (k : ∀ h', But hS h' none → K (.s bs) h') : Ok Tryz.prog n 119 [.p r 0] h K :=
  str_ok hn B.b hl fun h' f' => k h' (B.f.over f' (.inr B.s0))
theorem Bh.keep {hS h h' : H} {r : Nat} {s : V} {bs : Bs} (B : Bh hS h r s bs) (f : But h h' none) : Bh hS h' r s bs :=
  ⟨B.b.keep f (by simp) (.inr rfl), B.f.trans f, B.r0, B.s0⟩
theorem Bh.low {hS h : H} {r : Nat} {s : V} {bs : Bs} (B : Bh hS h r s bs) (L : Low hS) : Low h := L.keep B.f (by simp)
theorem Bh.new {h h' : H} {r : Nat} (hg : h'.mem.get r = some (.c [.np, .ns] 165 true)) (f : But h h' none) (h1 : h.next ≤ r) (h2 : r < h'.next) : Bh h h' r .ns [] :=
  ⟨⟨⟨.np, hg, .inl rfl⟩, ⟨by simp [u8s], .inl ⟨rfl, rfl⟩⟩, by simp [vblk], by simp [vblk], h2, .inl rfl⟩, f, h1, by simp [vblk]⟩

theorem unl_ok {n : Nat} (hn : 8 ≤ n) {hS : H} (L : Low hS) {K : V → H → Prop} {R : Option Bs}
    (k : ∀ h', But hS h' none → K (match R with | some o => .t [.s o, .b true] | none => .t [.s [], .b false]) h') :
    ∀ (m : Nat) (l done : Bs) (h : H) (r : Nat) (s : V), l.length < m → l.length < 100000 → Bh hS h r s done → done.length + 4 * l.length ≤ 1099511627776 → (unE l).map (done ++ ·) = R →
      F111_5 pw (mkX Tryz.prog) (Ok Tryz.prog n) (fun v h => Bd h → K v h) m (.s l) (.p r 0) h := by
  intro m
  induction m with
  | zero => intro l done h r s hm; omega
  | succ m ih =>
    intro l done h r s hm hl B hd hR
    rw [S111_5]
    simp only [c111, cf_k]
    refine cut_ok (by omega) (by omega) (fun a b e => ?_) (fun e => ?_)
    · have hlen := cut1_len e
      have he := (cut1_some e).1
      have hna := (cut1_some e).2
      simp only [ex_t, List.getElem?_cons_zero, List.getElem?_cons_succ, oP_some, cf_k]
      refine B.wr (by omega) (by omega) fun h1 s1 B1 => ?_
      simp (disch := omega) only [ws, Bool.not_true]
      unfold F111_19
      simp only [c111, cf_k]
      have hR' : (unE (38 :: b)).map ((done ++ a) ++ ·) = R := by
        rw [← hR, he, unE_app hna, Option.map_map]
        congr 1
        funext t
        simp
      refine cut_ok (by omega) (by omega) (fun nm t e2 => ?_) (fun e2 => ?_)
      · have hlen2 := cut1_len e2
        rw [unE_amp e2] at hR'
        simp only [ex_t, List.getElem?_cons_zero, List.getElem?_cons_succ, oP_some]
        simp (disch := omega) only [ws, Bool.not_true]
        unfold F111_31
        simp only [cf_k]
        refine sign_ok (by omega) (B1.low L) (by omega) fun h2 f2 => ?_
        cases hs : sgn nm with
        | none =>
          rw [hs] at hR'
          simp only [ex_t, List.getElem?_cons_zero, List.getElem?_cons_succ, oP_some]
          simp (disch := omega) only [ws, Bool.not_false]
          have := k h2 (B1.f.trans f2)
          rw [← hR'] at this
          exact fun _ => this
        | some o =>
          have ho := sgn_four hs
          rw [hs] at hR'
          simp only [ex_t, List.getElem?_cons_zero, List.getElem?_cons_succ, oP_some]
          simp (disch := omega) only [ws, Bool.not_true]
          unfold F111_42
          simp only [cf_k]
          refine (B1.keep f2).wr (by omega) (by simp only [List.length_append]; omega) fun h3 s3 B3 => ?_
          refine ih t _ h3 r s3 (by omega) (by omega) B3 (by simp only [List.length_append]; omega) ?_
          rw [← hR']
          simp only [Option.map_map]
          congr 1
          funext t
          simp
      · rw [unE_amp_none e2] at hR'
        simp only [ex_t, List.getElem?_cons_zero, List.getElem?_cons_succ, oP_some]
        simp (disch := omega) only [ws, Bool.not_false]
        have := k h1 B1.f
        rw [← hR'] at this
        exact fun _ => this
    · have hna := cut1_none e
      simp only [ex_t, List.getElem?_cons_zero, List.getElem?_cons_succ, oP_some, cf_k]
      refine B.wr (by omega) (by omega) fun h1 s1 B1 => ?_
      simp (disch := omega) only [ws, Bool.not_false]
      refine B1.str (by omega) (by simp only [List.length_append]; omega) fun h2 f2 => ?_
      have := k h2 f2
      rw [← hR, unE_plain hna] at this
      exact fun _ => this

/-- Unescape: 'unE'. -/
theorem un_ok {n : Nat} (hn : 9 ≤ n) {h : H} {K : V → H → Prop} {l : Bs} (L : Low h) (hl : l.length < 100000)
    (k : ∀ h', But h h' none → K (match unE l with | some o => .t [.s o, .b true] | none => .t [.s [], .b false]) h') : Ok Tryz.prog n 111 [.s l] h K := by
  obtain ⟨n, rfl⟩ := Nat.exists_eq_add_of_le' hn
  refine Ok.bd (K111 fun hbd => ?_)
  unfold F111
  refine al_a tt165 fun r h1 hg f h2 h3 => ?_
  refine unl_ok (by omega) L (R := unE l) k 100000 l [] h1 r .ns hl hl (Bh.new hg f h2 h3) (by simp; omega) ?_
  cases unE l <;> rfl
end Go.Proofs.YtbkhielalbbopaaGreatDoor.Wb
