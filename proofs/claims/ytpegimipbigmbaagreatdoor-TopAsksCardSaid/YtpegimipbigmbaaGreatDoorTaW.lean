/- TopAsks: the walk. -/
import Derived.Test.YtpegimipbigmbaaGreatDoorTaH
import Derived.Test.YtpegimipbigmbaaGreatDoorWt0
set_option linter.unusedSimpArgs false
set_option linter.unusedVariables false
set_option linter.unusedSectionVars false
set_option linter.unnecessarySimpa false
set_option maxRecDepth 100000
namespace Go.Proofs.YtpegimipbigmbaaGreatDoor.topAsks
open Go Go.Am Go.Proofs.YtpegimipbigmbaaGreatDoor.Facts Go.Proofs.YtpegimipbigmbaaGreatDoor.Wb
structure Tx (x : X) : Prop where
 t3 : x.tt.get 3 = some ⟨.int .i64, 1, 8, false, (some [.i]), [.i .i64 0], (.i .i64 0)⟩
 t5 : x.tt.get 5 = some ⟨.int .u8, 1, 1, false, (some [.i]), [.i .u8 0], (.i .u8 0)⟩
 t22 : x.tt.get 22 = some ⟨.int .u32, 1, 4, false, (some [.i]), [.i .u32 0], (.i .u32 0)⟩
 t24 : x.tt.get 24 = some ⟨.ptr 66, 1, 8, false, none, [.np], (.np)⟩
 t27 : x.tt.get 27 = some ⟨.arr 4 5, 4, 4, true, (some [.i, .i, .i, .i]), [.i .u8 0, .i .u8 0, .i .u8 0, .i .u8 0], (.a [.i .u8 0, .i .u8 0, .i .u8 0, .i .u8 0])⟩
 t30 : x.tt.get 30 = some ⟨.st [(0, 3, 1), (1, 3, 1), (2, 3, 1), (3, 3, 1), (4, 3, 1), (5, 3, 1), (6, 27, 4), (10, 27, 4), (14, 28, 1), (15, 28, 1)], 16, 104, true, none, [.i .i64 0, .i .i64 0, .i .i64 0, .i .i64 0, .i .i64 0, .i .i64 0, .i .u8 0, .i .u8 0, .i .u8 0, .i .u8 0, .i .u8 0, .i .u8 0, .i .u8 0, .i .u8 0, .ns, .ns], (.a [.i .i64 0, .i .i64 0, .i .i64 0, .i .i64 0, .i .i64 0, .i .i64 0, .i .u8 0, .i .u8 0, .i .u8 0, .i .u8 0, .i .u8 0, .i .u8 0, .i .u8 0, .i .u8 0, .ns, .ns])⟩
 t36 : x.tt.get 36 = some ⟨.st [(0, 3, 1), (1, 3, 1), (2, 3, 1), (3, 3, 1), (4, 3, 1), (5, 22, 1), (6, 22, 1), (7, 28, 1)], 8, 72, true, none, [.i .i64 0, .i .i64 0, .i .i64 0, .i .i64 0, .i .i64 0, .i .u32 0, .i .u32 0, .ns], (.a [.i .i64 0, .i .i64 0, .i .i64 0, .i .i64 0, .i .i64 0, .i .u32 0, .i .u32 0, .ns])⟩
 t38 : x.tt.get 38 = some ⟨.st [(0, 3, 1), (1, 3, 1), (2, 28, 1)], 3, 40, true, none, [.i .i64 0, .i .i64 0, .ns], (.a [.i .i64 0, .i .i64 0, .ns])⟩
 t39 : x.tt.get 39 = some ⟨.int .i64, 1, 8, false, (some [.i]), [.i .i64 0], (.i .i64 0)⟩
 t43 : x.tt.get 43 = some ⟨.sl 69, 1, 24, false, none, [.ns], (.ns)⟩
 t45 : x.tt.get 45 = some ⟨.st [(0, 3, 1), (1, 3, 1), (2, 42, 1), (3, 43, 1), (4, 43, 1), (5, 43, 1)], 6, 112, true, none, [.i .i64 0, .i .i64 0, .ns, .ns, .ns, .ns], (.a [.i .i64 0, .i .i64 0, .ns, .ns, .ns, .ns])⟩
theorem txx : Tx (mkX Tryz.prog) := ⟨tt3, tt5, tt22, tt24, tt27, tt30, tt36, tt38, tt39, tt43, tt45⟩
section
variable {x : X} {κ : V → Prop} {h : H}
theorem bl_st (T : Tx x) (ps : List (Nat × V)) (cs : List V) (hp : ((placesSt [(0, 3, 1), (1, 3, 1), (2, 3, 1), (3, 3, 1), (4, 3, 1), (5, 22, 1), (6, 22, 1), (7, 28, 1)] ps).bind fun l => fillA [.i .i64 0, .i .i64 0, .i .i64 0, .i .i64 0, .i .i64 0, .i .u32 0, .i .u32 0, .ns] l) = some cs) : pw.bl x 36 ps κ = κ (.a cs) := by
 show oP (blW x 36 ps) κ = _
 obtain ⟨l, h1, h2⟩ := Option.bind_eq_some_iff.1 hp
 simp only [blW, ti_some _ T.t36, h1, h2]
 rfl
theorem bl_ad (T : Tx x) {ps l : List (Nat × V)} {cs : List V} (hp : placesArr 1 ps = some l) (hf : fillA [.i .u8 0, .i .u8 0, .i .u8 0, .i .u8 0] l = some cs) : pw.bl x 27 ps κ = κ (.a cs) := by
 show oP (blW x 27 ps) κ = _
 simp only [blW, ti_some _ T.t27, ti_some _ T.t5, hp, hf]
 rfl
theorem ne_ad (T : Tx x) (a b c d : Int) : pw.ne x 27 (.a [.i .u8 a, .i .u8 b, .i .u8 c, .i .u8 d]) (.a [.i .u8 a, .i .u8 b, .i .u8 c, .i .u8 d]) κ = κ (.b false) := by
 simp only [pw, bin, ti, T.t27, eqOp, eqF, eqK, if_true, oP, decide_true, Bool.and_true, Bool.not_true, Bool.true_and, beq_self_eq_true]
theorem eq_ad (T : Tx x) (a b c d : Int) : pw.eq x 27 (.a [.i .u8 a, .i .u8 b, .i .u8 c, .i .u8 d]) (.a [.i .u8 a, .i .u8 b, .i .u8 c, .i .u8 d]) κ = κ (.b true) := by
 simp only [pw, bin, ti, T.t27, eqOp, eqF, eqK, if_true, oP, decide_true, Bool.and_true, Bool.not_true, Bool.true_and, beq_self_eq_true]
theorem ls_m (T : Tx x) {r o n c : Nat} {e : Bool} : pw.ls x 43 (.sl r o n c e) κ = κ (.i .i64 n) := by
 simp only [pw, ti_some _ T.t43, lenP, oP]
theorem eq_w (T : Tx x) {r o : Nat} : pw.eq x 24 (.p r o) .np κ = κ (.b false) := by
 simp only [pw, bin, ti_some _ T.t24, eqOp, oP]
theorem ln_at {r o sz : Nat} {l cs : List V} {ty : TypeId} {w : Bool} (hg : h.mem.get r = some (.c l ty w)) (h1 : o + sz ≤ l.length) (h2 : (l.drop o).take sz = cs) : pw.ln sz (.p r o) h κ = κ (.a cs) := by
 rw [ln_p, hg, cellB_some, h2]
 exact propext ⟨And.right, fun k => ⟨h1, k⟩⟩
theorem l1_at {r o : Nat} {l : List V} {ty : TypeId} {w : Bool} {v : V} (hg : h.mem.get r = some (.c l ty w)) (hx : l[o]? = some v) : pw.l1 (.p r o) h κ = κ v := by
 rw [l1_p, hg, cellB_some, hx, oP_some]
end
theorem rn_p {j : Nat → Nat} {r o : Nat} : rn j (.p r o) = .p (j r) o := rfl
theorem ex_0 {a b : V} {κ : V → Prop} : pw.ex 0 (.t [a, b]) κ = κ a := rfl
theorem ex_1 {a b : V} {κ : V → Prop} : pw.ex 1 (.t [a, b]) κ = κ b := rfl
theorem nodupB {l : List (Nat × B)} (h : decide (l.map Prod.fst).Nodup = true) : (l.map Prod.fst).Nodup := of_decide_eq_true h
def ltK (N : Nat) (l : List (Nat × B)) : Bool := l.all fun p => Nat.blt p.1 N
theorem ltK_ok {N : Nat} {l : List (Nat × B)} (h : ltK N l = true) : ∀ p ∈ l, p.1 < N := fun p hp => blt_dn (List.all_eq_true.1 h p hp)
def wfK (N : Nat) (l : List (Nat × B)) : Bool := l.all fun p => Nat.blt p.1 N && belB N p.2
theorem wfK_ok {N : Nat} {l : List (Nat × B)} (h : wfK N l = true) : ∀ p ∈ l, p.1 < N ∧ belB N p.2 = true := fun p hp => by
 have := List.all_eq_true.1 h p hp
 rw [Bool.and_eq_true] at this
 exact ⟨blt_dn this.1, this.2⟩
def noK (a l : List (Nat × B)) : Bool := l.all fun p => a.all fun q => !(Nat.beq p.1 q.1)
theorem noK_ok {a l : List (Nat × B)} (h : noK a l = true) : ∀ p ∈ l, p.1 ∉ a.map Prod.fst := fun p hp hm => by
 obtain ⟨q, hq, e⟩ := List.mem_map.1 hm
 have := List.all_eq_true.1 (List.all_eq_true.1 h p hp) q hq
 rw [e] at this
 simp at this
theorem sub_up {N : Nat} {l : List (Nat × B)} {h : H} (s : Sub (Mt.h ⟨N, l⟩) h) : Sub (Mt.h ⟨N + 1, l⟩) ⟨h.next + 1, h.mem⟩ := ⟨by show h.next + 1 = N + 1; rw [show h.next = N from s.1], s.2⟩
theorem awake_ok {g : H} (h16 : 16 ≤ g.next) {K : V → H → Prop} (k : ∀ g', Bd g' → 16 ≤ g'.next → K (.b true) g') : Ok Tryz.prog 99 4 [] g K := by
 obtain ⟨h', h1, e, _⟩ := hW
 have kn := kn_nil h16
 exact ok_rn kn.J kn.m e rfl rfl fun g' b F _ => k g' b (Nat.le_trans h16 F.le')
theorem up_ok {g : H} (h16 : 16 ≤ g.next) {K : V → H → Prop} (k : ∀ g' j, Bd g' → Kn j 5950 uU g' → K (.p (j 203) 0) g') : Ok Tryz.prog 99 5 [] g K := by
 refine Ok.bd (K5 fun hbd => ?_)
 unfold F5
 have T := txx
 generalize mkX Tryz.prog = x at T ⊢
 have k0 := kn_nil h16
 have fx : ∀ a b c d : V, pw.bl x 36 [(0, a), (1, b)] = pw.bl x 36 [(0, a), (1, b)] := fun _ _ _ _ => rfl
 obtain ⟨_, ch, s2⟩ := hU2
 obtain ⟨a1, e1, ch⟩ := ch.zero
 obtain ⟨a2, e2, ch⟩ := ch.zero
 obtain ⟨a3, e3, ch⟩ := ch.zero
 subst ch
 try simp only [cf_k]
 refine ok_rn k0.J k0.m e1 rfl rfl fun g1 b1 F1 d1 => ?_
 refine ok_rn k0.J F1.m e2 rfl rfl fun g2 b2 F2 d2 => ?_
 simp only [rn_p, eq_w T, cd_f]
 unfold F5_5
 simp only [bl_st T [(0, .i .i64 0), (5, .i .u32 5)] [z 0, z 0, z 0, z 0, z 0, w 5, w 0, .ns] rfl, bl_st T [(0, .i .i64 3), (6, .i .u32 3000)] [z 3, z 0, z 0, z 0, z 0, w 0, w 3000, .ns] rfl, cf_k]
 refine ok_rn k0.J F2.m e3 rfl rfl fun g3 b3 F3' d3 => ?_
 have k3 := Kn.of k0.J F3'.m s2 (nodupB rfl)
 obtain ⟨_, ch, s3⟩ := hU3
 obtain ⟨a4, e4, ch⟩ := ch.zero
 subst ch
 refine ok_rn k3.J k3.m e4 rfl rfl fun g4 b4 F4' d4 => ?_
 have k4 := Kn.of k0.J F4'.m s3 (nodupB rfl)
 obtain ⟨_, ch, s4⟩ := hU4
 obtain ⟨a5, e5, ch⟩ := ch.zero
 subst ch
 refine ok_rn k4.J k4.m e5 rfl rfl fun g5 b5 F5' d5 => ?_
 have k5 := Kn.of k0.J F5'.m s4 (nodupB rfl)
 rw [S5_21, lt_i, decide_eq_true (by decide), cd_t]
 unfold F5_24
 simp only [bl_st T [(0, .i .i64 2), (1, .i .i64 0)] [z 2, z 0, z 0, z 0, z 0, w 0, w 0, .ns] rfl, bl_st T [(0, .i .i64 3)] [z 3, z 0, z 0, z 0, z 0, w 0, w 0, .ns] rfl, cf_k]
 obtain ⟨_, ch, s5⟩ := hU5
 obtain ⟨a6, e6, ch⟩ := ch.zero
 subst ch
 refine ok_rn k5.J k5.m e6 rfl rfl fun g6 b6 F6' d6 => ?_
 have k6 := Kn.of k0.J F6'.m s5 (nodupB rfl)
 obtain ⟨_, ch, s6⟩ := hU6
 obtain ⟨a7, e7, ch⟩ := ch.zero
 subst ch
 refine ok_rn k6.J k6.m e7 rfl rfl fun g7 b7 F7' d7 => ?_
 have k7 := Kn.of k0.J F7'.m s6 (nodupB rfl)
 unfold F5_27
 rw [ad_64 (by decide)]
 rw [S5_21, lt_i, decide_eq_true (by decide), cd_t]
 unfold F5_24
 simp only [show (0 + 1 : Int) = 1 from rfl, bl_st T [(0, .i .i64 2), (1, .i .i64 1)] [z 2, z 1, z 0, z 0, z 0, w 0, w 0, .ns] rfl, bl_st T [(0, .i .i64 3)] [z 3, z 0, z 0, z 0, z 0, w 0, w 0, .ns] rfl, cf_k]
 obtain ⟨_, ch, s7⟩ := hU7
 obtain ⟨a8, e8, ch⟩ := ch.zero
 subst ch
 refine ok_rn k7.J k7.m e8 rfl rfl fun g8 b8 F8' d8 => ?_
 have k8 := Kn.of k0.J F8'.m s7 (nodupB rfl)
 obtain ⟨_, ch, s8⟩ := hU8
 obtain ⟨a9, e9, ch⟩ := ch.zero
 subst ch
 refine ok_rn k8.J k8.m e9 rfl rfl fun g9 b9 F9' d9 => ?_
 have k9 := Kn.of k0.J F9'.m s8 (nodupB rfl)
 unfold F5_27
 rw [ad_64 (by decide)]
 rw [S5_21, lt_i, decide_eq_true (by decide), cd_t]
 unfold F5_24
 simp only [show (1 + 1 : Int) = 2 from rfl, bl_st T [(0, .i .i64 2), (1, .i .i64 2)] [z 2, z 2, z 0, z 0, z 0, w 0, w 0, .ns] rfl, bl_st T [(0, .i .i64 3)] [z 3, z 0, z 0, z 0, z 0, w 0, w 0, .ns] rfl, cf_k]
 obtain ⟨_, ch, s9⟩ := hU9
 obtain ⟨a10, e10, ch⟩ := ch.zero
 subst ch
 refine ok_rn k9.J k9.m e10 rfl rfl fun g10 b10 F10' d10 => ?_
 have k10 := Kn.of k0.J F10'.m s9 (nodupB rfl)
 obtain ⟨_, ch, s10⟩ := hU10
 obtain ⟨a11, e11, ch⟩ := ch.zero
 subst ch
 refine ok_rn k10.J k10.m e11 rfl rfl fun g11 b11 F11' d11 => ?_
 have k11 := Kn.of k0.J F11'.m s10 (nodupB rfl)
 unfold F5_27
 rw [ad_64 (by decide)]
 rw [show (2 + 1 : Int) = 3 from rfl, S5_21, lt_i, decide_eq_false (by decide), cd_f]
 unfold F5_16
 exact fun _ => k _ _ b11 k11
theorem stB_or (i : Nat) : stB i = tB0 ∨ stB i = tB1 ∨ stB i = tB2 ∨ stB i = tB3 ∨ stB i = tB4 ∨ stB i = tB5 := by
 unfold stB
 (repeat' split) <;> simp
def lT0 (c : Nat) (s : Int) (i : Nat) : List (Nat × B) := (tA0 (i + 1) (drw i) ++ stB i ++ tD0) ++ tC0 c s (s + 1)
set_option maxHeartbeats 4000000 in
theorem end0 {x : X} (T : Tx x) {c : Nat} (hc : c < 16) {v secs : Int} (h3 : -9223372036854775808 ≤ v) (h4 : v ≤ 9223372036854775807) (h5 : v % 16 = c) (h6 : 1 ≤ secs) (h7 : secs ≤ 1000) {i : Nat} (hi : i ≤ 50) {j : Nat → Nat} {g : H} (hb : Bd g) (kn : Kn j 7439 (lT0 c secs i) g)
  {K : V → H → Prop} (k : ∀ h', K (.b true) h') : F3_75 pw x (Ok Tryz.prog 99) K (.i .i64 0) (.i .i64 v) (.i .u32 secs) (.i .i64 i) (.p (j 203) 0) g := by
 unfold F3_75
 rw [ad_64 (by decide), re_64 (by decide)]
 simp only [show ((0 + 1 : Int) % 3) = 1 from rfl, bl_st T [(0, .i .i64 9), (1, .i .i64 1), (2, .i .i64 v), (3, .i .i64 77)] [z 9, z 1, .i .i64 v, z 77, z 0, w 0, w 0, .ns] rfl, cf_k]
 have ks : Kn j 7439 (tA0 (i + 1) (drw i) ++ tC0 c secs (secs + 1) ++ tD0) g := kn.sub fun p hp => by
  simp only [lT0, List.mem_append] at hp ⊢
  rcases hp with (a | a) | a
  ·exact .inl (.inl (.inl a))
  ·exact .inr a
  ·exact .inl (.inr a)
 by_cases q : (i : Int) < secs
 ·obtain ⟨h5', ch, sZ⟩ := hC0 c hc (s0 := secs) (t0 := i) (v0 := v) (d0 := drw i) (by omega) (by omega) q h7 (by unfold drw; split <;> omega) (by unfold drw; split <;> omega) h3 h4 h5
  obtain ⟨a1, e1, ch⟩ := ch.zero
  obtain ⟨a2, e2, ch⟩ := ch.zero
  obtain ⟨a3, e3, ch⟩ := ch.one
  obtain ⟨a4, e4, ch⟩ := ch.one
  obtain ⟨a5, e5, ch⟩ := ch.one
  subst ch
  have q0 : Bd (Mt.h ⟨7439, tA0 (i + 1) (drw i) ++ tC0 c secs (secs + 1) ++ tD0⟩) := bd_lay (ltK_ok rfl)
  refine ok_rn ks.J ks.m e1 rfl rfl fun g1 b1 F1 d1 => ?_
  refine ok_rn ks.J F1.m e2 rfl rfl fun g2 b2 F2 d2 => ?_
  try simp only [rn, rns, ex_0, ex_1]
  refine al_m (cs := [z 0,z 0,z 0,z 0,z 64,z 17,y 192,y 168,y 1,y 1,y 192,y 168,y 1,y 101,(.sl (j 8140) 0 0 0 false),(.sl (j 8142) 0 46 46 true)]) T.t30 rfl rfl rfl rfl ks.J F2.m (d2 (d1 q0)) b2 fun r3 g3 b3 M3 O3 P3 => ?_
  refine ok_rn ks.J M3 e3 rfl rfl fun g4 b4 F4 d4 => ?_
  have O4 := O3.call ks.J M3 F4
  have q4 : Bd a3 := d4 fun r b hr => Nat.lt_succ_of_lt ((d2 (d1 q0)) r b hr)
  try simp only [rn, rns, ex_0, ex_1]
  refine al_m (cs := [z 0,z 0,z 0,z 0,z 0,z 0,y 0,y 0,y 0,y 0,y 0,y 0,y 0,y 0,.ns,.ns]) T.t30 rfl rfl rfl rfl ks.J F4.m q4 b4 fun r5 g5 b5 M5 O5 P5 => ?_
  have O5' := P5 _ _ O4
  rw [ci_64 (by omega), ge_i, decide_eq_false (by omega), cd_f]
  unfold F3_107
  rw [ln_at O5'.mem (cs := [z 0,z 0,z 0,z 0,z 64,z 17,y 192,y 168,y 1,y 1,y 192,y 168,y 1,y 101,(.sl (j 8140) 0 0 0 false),(.sl (j 8142) 0 46 46 true)]) (Nat.le_of_ble_eq_true rfl) rfl]
  try simp only [cf_k]
  refine ok_rn ks.J M5 e4 rfl rfl fun g6 b6 F6 d6 => ?_
  have O6 := O5'.call ks.J M5 F6
  have q6 : Bd a4 := d6 fun r b hr => Nat.lt_succ_of_lt (q4 r b hr)
  try simp only [rn, rns, ex_0, ex_1]
  refine al_m (cs := [z 53,z 3000,(.sl (j 8187) 0 38 38 true)]) T.t38 rfl rfl rfl rfl ks.J F6.m q6 b6 fun r7 g7 b7 M7 O7 P7 => ?_
  have O7' := P7 _ _ O6
  rw [fa_p, Nat.zero_add, l1_at O7.mem (v := (.sl (j 8187) 0 38 38 true)) rfl]
  try simp only [cf_k]
  refine ok_rn ks.J M7 e5 rfl rfl fun g8 b8 F8 d8 => ?_
  have O8 := O7'.call ks.J M7 F8
  have q8 : Bd a5 := d8 fun r b hr => Nat.lt_succ_of_lt (q6 r b hr)
  try simp only [rn, rns, ex_0, ex_1]
  refine al_m (cs := [z 77,z 33152,(.sl (j 8196) 0 1 1 true),(.sl (j 8203) 0 1 1 true),.ns,.ns]) T.t45 rfl rfl rfl rfl ks.J F8.m q8 b8 fun r9 g9 b9 M9 O9 P9 => ?_
  have O9' := P9 _ _ O8
  have h9 : ∀ {r : Nat} {b : B}, (Mt.h (mZ0 (secs - i))).mem.get r = some b → g9.mem.get (j r) = some (rnB j b) := fun hr => M9.mem _ _ (sZ.2 _ _ hr)
  have hz := h9 (r := 8203) rfl
  have hw := h9 (r := 203) rfl
  have he := h9 (r := 202) rfl
  have lID : ∀ κ, pw.l1 (.p r9 0) g9 κ = κ (.i .i64 77) := fun κ => l1_at O9.mem rfl
  have lnX : ∀ κ, pw.ln 4 (.p r3 10) g9 κ = κ (.a [.i .u8 192, .i .u8 168, .i .u8 1, .i .u8 101]) := fun κ => ln_at O9'.mem (Nat.le_of_ble_eq_true rfl) rfl
  have lw : ∀ κ, pw.l1 (.p (j 203) 1) g9 κ = κ (.p (j 202) 0) := fun κ => l1_at hw rfl
  have irE : ∀ κ, pw.ir 8 4 (.p (j 202) 40) (.i .i64 1) κ = κ (.p (j 202) 44) := fun κ => ir_p (by decide)
  have lnE : ∀ κ, pw.ln 4 (.p (j 202) 44) g9 κ = κ (.a [.i .u8 192, .i .u8 168, .i .u8 1, .i .u8 101]) := fun κ => ln_at he (Nat.le_of_ble_eq_true rfl) rfl
  have lA : ∀ κ, pw.l1 (.p r9 3) g9 κ = κ (.sl (j 8203) 0 1 1 true) := fun κ => l1_at O9.mem rfl
  have isA : ∀ κ, pw.is 5 (.sl (j 8203) 0 1 1 true) (.i .i64 0) κ = κ (.p (j 8203) 0) := fun κ => is_sl (by decide)
  have lT : ∀ κ, pw.l1 (.p (j 8203) 3) g9 κ = κ (.i .u32 (secs - i)) := fun κ => l1_at hz rfl
  have ciW : ∀ κ, pw.ci x 3 22 .u32 (.i .i64 i) κ = κ (.i .u32 i) := fun κ => ci_u32 (by omega)
  have sbW : ∀ κ, pw.sb x 22 (.i .u32 secs) (.i .u32 i) κ = κ (.i .u32 (secs - i)) := fun κ => sb_u32 (by omega)
  have e39 : ∀ κ, pw.eq x 39 (z 0) (.i .i64 0) κ = κ (.b true) := fun κ => eq_i
  have eqS : ∀ {t : TypeId} {q : IntKind} {m : Int} {κ : V → Prop}, pw.eq x t (.i q m) (.i q m) κ = κ (.b true) := by
   intro t q m κ
   rw [eq_i, decide_eq_true rfl]
  have el : ∀ κ, pw.ls x 43 (.sl (j 8203) 0 1 1 true) κ = κ (.i .i64 1) := fun κ => ls_m T
  simp only [g1_t, nt_b, Bool.not_false, pk_t, e39, fa_p, nl_p, Nat.zero_add, lID, eqS, lnX, lw, irE, lnE, eq_ad T, lA, el, isA, lT, ciW, sbW]
  exact k _
 ·obtain ⟨h5', ch⟩ := hD0 c hc (s0 := secs) (t0 := i) (v0 := v) h6 (by omega) (by omega) h3 h4 h5
  obtain ⟨a1, e1, ch⟩ := ch.zero
  obtain ⟨a2, e2, ch⟩ := ch.zero
  obtain ⟨a3, e3, ch⟩ := ch.one
  subst ch
  have ks : Kn j 7439 (tA0 (i + 1) 3 ++ tC0 c secs (secs + 1) ++ tD0) g := by
   rw [show drw i = 3 from if_neg (by omega)] at ks
   exact ks
  have q0 : Bd (Mt.h ⟨7439, tA0 (i + 1) 3 ++ tC0 c secs (secs + 1) ++ tD0⟩) := bd_lay (ltK_ok rfl)
  refine ok_rn ks.J ks.m e1 rfl rfl fun g1 b1 F1 d1 => ?_
  refine ok_rn ks.J F1.m e2 rfl rfl fun g2 b2 F2 d2 => ?_
  try simp only [rn, rns, ex_0, ex_1]
  refine al_m (cs := [z 0,z 0,z 0,z 0,z 0,z 0,y 0,y 0,y 0,y 0,y 0,y 0,y 0,y 0,.ns,.ns]) T.t30 rfl rfl rfl rfl ks.J F2.m (d2 (d1 q0)) b2 fun r3 g3 b3 M3 O3 P3 => ?_
  refine ok_rn ks.J M3 e3 rfl rfl fun g4 b4 F4 d4 => ?_
  have q4 : Bd a3 := d4 fun r b hr => Nat.lt_succ_of_lt ((d2 (d1 q0)) r b hr)
  try simp only [rn, rns, ex_0, ex_1]
  refine al_m (cs := [z 0,z 0,z 0,z 0,z 64,z 17,y 203,y 0,y 113,y 1,y 9,y 9,y 9,y 9,(.sl (j 7996) 0 0 0 false),(.sl (j 7998) 0 28 28 true)]) T.t30 rfl rfl rfl rfl ks.J F4.m q4 b4 fun r5 g5 b5 M5 O5 P5 => ?_
  rw [ci_64 (by omega), ge_i, decide_eq_true (by omega), cd_t]
  exact k _
set_option maxHeartbeats 4000000 in
theorem loop0 {x : X} (T : Tx x) {c : Nat} (hc : c < 16) {v secs : Int} (h3 : -9223372036854775808 ≤ v) (h4 : v ≤ 9223372036854775807) (h5 : v % 16 = c) (h6 : 1 ≤ secs) (h7 : secs ≤ 1000) {N : Nat} (hN : N ≤ 50) {K : V → H → Prop} (k : ∀ h', K (.b true) h') :
  ∀ (m f i : Nat) (j : Nat → Nat) (g : H), i + m = N → m < f → Bd g → Kn j 7439 (lT0 c secs i) g → F3_225 pw x (Ok Tryz.prog 99) K f (.i .i64 0) (.i .i64 v) (.i .u32 secs) (.i .i64 N) (.p (j 203) 0) (.i .i64 i) g := by
 intro m
 induction m with
 | zero =>
  intro f i j g hm hf hb kn
  obtain ⟨f, rfl⟩ := Nat.exists_eq_add_of_le' (show 1 ≤ f by omega)
  obtain rfl : i = N := by omega
  rw [S3_225, lt_i, decide_eq_false (by omega), cd_f]
  exact end0 T hc h3 h4 h5 h6 h7 hN hb kn k
 | succ m ih =>
  intro f i j g hm hf hb kn
  obtain ⟨f, rfl⟩ := Nat.exists_eq_add_of_le' (show 1 ≤ f by omega)
  rw [S3_225, lt_i, decide_eq_true (show (i : Int) < (N : Int) by omega), cd_t]
  unfold F3_232
  obtain ⟨v', h', N', e, s⟩ := tick0 i (by omega)
  simp only [bl_st T [(0, .i .i64 0), (5, .i .u32 3)] [z 0, z 0, z 0, z 0, z 0, w 3, w 0, .ns] rfl, cf_k]
  have ks : Kn j 7439 (tA0 (i + 1) (drw i) ++ stB i ++ tD0) g := kn.sub fun p hp => List.mem_append_left _ hp
  refine ok_rn ks.J ks.m e rfl rfl fun g1 b1 F1 _ => ?_
  have hs := stB_or i
  have hs' := stB_or (i + 1)
  have kb := kn.back (a := tA0 (i + 1) (drw i) ++ stB i ++ tD0) (R := tC0 c secs (secs + 1)) F1 s (by rcases hs' with q | q | q | q | q | q <;> rw [q] <;> exact nodupB rfl)
   (fun p hp => ⟨List.mem_append_right _ hp, by rcases hs with q | q | q | q | q | q <;> rw [q] <;> exact noK_ok rfl p hp⟩)
   (by rcases hs' with q | q | q | q | q | q <;> rw [q] <;> exact wfK_ok rfl) (by decide)
  unfold F3_239
  rw [ad_64 (by omega)]
  have := ih f (i + 1) _ g1 (by omega) (by omega) b1 kb
  rw [jN_lt (by decide)] at this
  exact this
set_option maxHeartbeats 8000000 in
theorem law0 {x : X} (T : Tx x) {v id secs : Int} {N : Nat} (h1 : 0 ≤ id) (h2 : id ≤ 65535) (h3 : -9223372036854775808 ≤ v) (h4 : v ≤ 9223372036854775807) (h6 : 1 ≤ secs) (h7 : secs ≤ 1000) (hN : N ≤ 50) {j : Nat → Nat} {g : H} (hb : Bd g) (kn : Kn j 5950 uU g)
  {K : V → H → Prop} (k : ∀ h', K (.b true) h') : F3_21 pw x (Ok Tryz.prog 99) K (.i .i64 0) (.i .i64 v) (.i .i64 id) (.i .u32 secs) (.i .i64 N) (.p (j 203) 0) g := by
 obtain ⟨c, hc⟩ : ∃ c : Nat, v % 16 = c := ⟨(v % 16).toNat, by omega⟩
 have hc16 : c < 16 := by omega
 obtain ⟨_, ch, sS⟩ := hA0 c hc16 h1 h2 h3 h4 hc
 obtain ⟨a1, e1, ch⟩ := ch.zero
 obtain ⟨a2, e2, ch⟩ := ch.zero
 subst ch
 obtain ⟨_, ch, sT⟩ := hB0 c hc16 (i0 := id) h1 h2 h6 h7
 obtain ⟨a4, e4, ch⟩ := ch.zero
 obtain ⟨a5, e5, ch⟩ := ch.zero
 obtain ⟨a7, e7, ch⟩ := ch.one
 obtain ⟨a9, e9, ch⟩ := ch.one
 subst ch
 unfold F3_21
 have q0 : Bd (Mt.h mU) := bd_lay (ltK_ok rfl)
 simp only [bl_st T [(0, .i .i64 9), (1, .i .i64 0), (2, .i .i64 v), (3, .i .i64 id)] [z 9, z 0, .i .i64 v, .i .i64 id, z 0, w 0, w 0, .ns] rfl, bl_st T [(0, .i .i64 10), (6, .i .u32 secs)] [z 10, z 0, z 0, z 0, z 0, w 0, .i .u32 secs, .ns] rfl, cf_k]
 refine ok_rn kn.J kn.m e1 rfl rfl fun g1 b1 F1 d1 => ?_
 refine ok_rn kn.J F1.m e2 rfl rfl fun g2 b2 F2 d2 => ?_
 try simp only [rn, rns, ex_0, ex_1]
 refine al_m (cs := [z 0,z 0,z 0,z 0,z 64,z 17,y 203,y 0,y 113,y 1,y 9,y 9,y 9,y 9,(.sl (j 6629) 0 0 0 false),(.sl (j 6631) 0 28 28 true)]) T.t30 rfl rfl rfl rfl kn.J F2.m (d2 (d1 q0)) b2 fun r3 g3 b3 M3 O3 P3 => ?_
 have k3 := Kn.of kn.J M3 (sub_up sS) (nodupB rfl)
 have O3s := O3.sub (sub_up sS)
 have q3 : Bd (Mt.h ⟨6635, sS0 c id⟩) := bd_lay (ltK_ok rfl)
 refine ok_rn kn.J k3.m e4 rfl rfl fun g4 b4 F4 d4 => ?_
 have O4 := O3s.call kn.J k3.m F4
 refine ok_rn kn.J F4.m e5 rfl rfl fun g5 b5 F5 d5 => ?_
 have O5 := O4.call kn.J F4.m F5
 have q5 := d5 (d4 q3)
 try simp only [rn, rns, ex_0, ex_1]
 refine al_m (cs := [z 0,z 0,z 0,z 0,z 64,z 17,y 192,y 168,y 1,y 1,y 192,y 168,y 1,y 100,(.sl (j 7399) 0 0 0 false),(.sl (j 7401) 0 46 46 true)]) T.t30 rfl rfl rfl rfl kn.J F5.m q5 b5 fun r6 g6 b6 M6 O6 P6 => ?_
 have p6 := P6 _ _ O5
 rw [ln_at O6.mem (cs := [z 0,z 0,z 0,z 0,z 64,z 17,y 192,y 168,y 1,y 1,y 192,y 168,y 1,y 100,(.sl (j 7399) 0 0 0 false),(.sl (j 7401) 0 46 46 true)]) (Nat.le_of_ble_eq_true rfl) rfl]
 try simp only [cf_k]
 refine ok_rn kn.J M6 e7 rfl rfl fun g7 b7 F7 d7 => ?_
 have p7 := p6.call kn.J M6 F7
 have O7 := O6.call kn.J M6 F7
 have q7 : Bd a7 := d7 fun r b hr => Nat.lt_succ_of_lt (q5 r b hr)
 try simp only [rn, rns, ex_0, ex_1]
 refine al_m (cs := [z 53,z 3000,(.sl (j 7421) 0 38 38 true)]) T.t38 rfl rfl rfl rfl kn.J F7.m q7 b7 fun r8 g8 b8 M8 O8 P8 => ?_
 have p8 := P8 _ _ p7
 have O8' := P8 _ _ O7
 rw [fa_p, Nat.zero_add, l1_at O8.mem (v := (.sl (j 7421) 0 38 38 true)) rfl]
 try simp only [cf_k]
 refine ok_rn kn.J M8 e9 rfl rfl fun g9 b9 F9 d9 => ?_
 have p9 := p8.call kn.J M8 F9
 have O9 := O8'.call kn.J M8 F9
 have q9 : Bd a9 := d9 fun r b hr => Nat.lt_succ_of_lt (q7 r b hr)
 try simp only [rn, rns, ex_0, ex_1]
 refine al_m (cs := [(.i .i64 id),z 33152,(.sl (j 7430) 0 1 1 true),(.sl (j 7437) 0 1 1 true),.ns,.ns]) T.t45 rfl rfl rfl rfl kn.J F9.m q9 b9 fun r10 g10 b10 M10 O10 P10 => ?_
 have p10 := P10 _ _ p9
 have O10' := P10 _ _ O9
 have k10 : Kn j 7439 (tA0 1 5 ++ tB0 ++ tC0 c secs (secs + 1) ++ tD0) g10 := Kn.of kn.J M10 (sub_up sT) (nodupB rfl)
 have h9 : ∀ {r : Nat} {b : B}, (r, b) ∈ tD0 → g10.mem.get (j r) = some (rnB j b) := fun hr => k10.mem _ _ (List.mem_append_right _ hr)
 have hw := h9 (r := 203) (layB_get (l := tD0) rfl)
 have he := h9 (r := 202) (layB_get (l := tD0) rfl)
 have lnP : ∀ κ, pw.ln 4 (.p r3 10) g10 κ = κ (.a [.i .u8 9, .i .u8 9, .i .u8 9, .i .u8 9]) := fun κ => ln_at p10.mem (Nat.le_of_ble_eq_true rfl) rfl
 have bl9 : ∀ κ, pw.bl x 27 [(0, .i .u8 9), (1, .i .u8 9), (2, .i .u8 9), (3, .i .u8 9)] κ = κ (.a [.i .u8 9, .i .u8 9, .i .u8 9, .i .u8 9]) := fun κ => bl_ad T rfl rfl
 have lID : ∀ κ, pw.l1 (.p r10 0) g10 κ = κ (.i .i64 id) := fun κ => l1_at O10.mem rfl
 have lnX : ∀ κ, pw.ln 4 (.p r6 10) g10 κ = κ (.a [.i .u8 192, .i .u8 168, .i .u8 1, .i .u8 100]) := fun κ => ln_at O10'.mem (Nat.le_of_ble_eq_true rfl) rfl
 have lw : ∀ κ, pw.l1 (.p (j 203) 1) g10 κ = κ (.p (j 202) 0) := fun κ => l1_at hw rfl
 have irE : ∀ κ, pw.ir 8 4 (.p (j 202) 40) (.i .i64 0) κ = κ (.p (j 202) 40) := fun κ => ir_p (by decide)
 have lnE : ∀ κ, pw.ln 4 (.p (j 202) 40) g10 κ = κ (.a [.i .u8 192, .i .u8 168, .i .u8 1, .i .u8 100]) := fun κ => ln_at he (Nat.le_of_ble_eq_true rfl) rfl
 have lA : ∀ κ, pw.l1 (.p r10 3) g10 κ = κ (.sl (j 7437) 0 1 1 true) := fun κ => l1_at O10.mem rfl
 have el : ∀ κ, pw.ls x 43 (.sl (j 7437) 0 1 1 true) κ = κ (.i .i64 1) := fun κ => ls_m T
 have n39 : ∀ κ, pw.ne x 39 (z 0) (.i .i64 0) κ = κ (.b false) := fun κ => ne_i
 have neS : ∀ {t : TypeId} {q : IntKind} {m : Int} {κ : V → Prop}, pw.ne x t (.i q m) (.i q m) κ = κ (.b false) := by
  intro t q m κ
  rw [ne_i, decide_eq_true rfl, Bool.not_true]
 simp only [nt_b, Bool.not_true, g0_f, pk_f, fa_p, nl_p, Nat.zero_add, lnP, bl9, ne_ad T, n39, lID, neS, lA, el, lnX, lw, irE, lnE, cd_f]
 unfold F3_69
 have kl : Kn j 7439 (lT0 c secs 0) g10 := k10.sub fun p hp => by
  simp only [lT0, List.mem_append] at hp ⊢
  rcases hp with ((a | a) | a) | a
  ·exact .inl (.inl (.inl a))
  ·exact .inl (.inl (.inr a))
  ·exact .inr a
  ·exact .inl (.inr a)
 exact loop0 T hc16 h3 h4 hc h6 h7 hN k N 100000 0 j g10 (by omega) (by omega) b10 kl
def lT1 (c : Nat) (s : Int) (i : Nat) : List (Nat × B) := (tA1 (i + 1) (drw i) ++ stB i ++ tD1) ++ tC1 c s (s + 1)
set_option maxHeartbeats 4000000 in
theorem end1 {x : X} (T : Tx x) {c : Nat} (hc : c < 16) {v secs : Int} (h3 : -9223372036854775808 ≤ v) (h4 : v ≤ 9223372036854775807) (h5 : v % 16 = c) (h6 : 1 ≤ secs) (h7 : secs ≤ 1000) {i : Nat} (hi : i ≤ 50) {j : Nat → Nat} {g : H} (hb : Bd g) (kn : Kn j 7440 (lT1 c secs i) g)
  {K : V → H → Prop} (k : ∀ h', K (.b true) h') : F3_75 pw x (Ok Tryz.prog 99) K (.i .i64 1) (.i .i64 v) (.i .u32 secs) (.i .i64 i) (.p (j 203) 0) g := by
 unfold F3_75
 rw [ad_64 (by decide), re_64 (by decide)]
 simp only [show ((1 + 1 : Int) % 3) = 2 from rfl, bl_st T [(0, .i .i64 9), (1, .i .i64 2), (2, .i .i64 v), (3, .i .i64 77)] [z 9, z 2, .i .i64 v, z 77, z 0, w 0, w 0, .ns] rfl, cf_k]
 have ks : Kn j 7440 (tA1 (i + 1) (drw i) ++ tC1 c secs (secs + 1) ++ tD1) g := kn.sub fun p hp => by
  simp only [lT1, List.mem_append] at hp ⊢
  rcases hp with (a | a) | a
  ·exact .inl (.inl (.inl a))
  ·exact .inr a
  ·exact .inl (.inr a)
 by_cases q : (i : Int) < secs
 ·obtain ⟨h5', ch, sZ⟩ := hC1 c hc (s0 := secs) (t0 := i) (v0 := v) (d0 := drw i) (by omega) (by omega) q h7 (by unfold drw; split <;> omega) (by unfold drw; split <;> omega) h3 h4 h5
  obtain ⟨a1, e1, ch⟩ := ch.zero
  obtain ⟨a2, e2, ch⟩ := ch.zero
  obtain ⟨a3, e3, ch⟩ := ch.one
  obtain ⟨a4, e4, ch⟩ := ch.one
  obtain ⟨a5, e5, ch⟩ := ch.one
  subst ch
  have q0 : Bd (Mt.h ⟨7440, tA1 (i + 1) (drw i) ++ tC1 c secs (secs + 1) ++ tD1⟩) := bd_lay (ltK_ok rfl)
  refine ok_rn ks.J ks.m e1 rfl rfl fun g1 b1 F1 d1 => ?_
  refine ok_rn ks.J F1.m e2 rfl rfl fun g2 b2 F2 d2 => ?_
  try simp only [rn, rns, ex_0, ex_1]
  refine al_m (cs := [z 0,z 0,z 0,z 0,z 64,z 17,y 192,y 168,y 1,y 1,y 192,y 168,y 1,y 102,(.sl (j 8142) 0 0 0 false),(.sl (j 8144) 0 46 46 true)]) T.t30 rfl rfl rfl rfl ks.J F2.m (d2 (d1 q0)) b2 fun r3 g3 b3 M3 O3 P3 => ?_
  refine ok_rn ks.J M3 e3 rfl rfl fun g4 b4 F4 d4 => ?_
  have O4 := O3.call ks.J M3 F4
  have q4 : Bd a3 := d4 fun r b hr => Nat.lt_succ_of_lt ((d2 (d1 q0)) r b hr)
  try simp only [rn, rns, ex_0, ex_1]
  refine al_m (cs := [z 0,z 0,z 0,z 0,z 0,z 0,y 0,y 0,y 0,y 0,y 0,y 0,y 0,y 0,.ns,.ns]) T.t30 rfl rfl rfl rfl ks.J F4.m q4 b4 fun r5 g5 b5 M5 O5 P5 => ?_
  have O5' := P5 _ _ O4
  rw [ci_64 (by omega), ge_i, decide_eq_false (by omega), cd_f]
  unfold F3_107
  rw [ln_at O5'.mem (cs := [z 0,z 0,z 0,z 0,z 64,z 17,y 192,y 168,y 1,y 1,y 192,y 168,y 1,y 102,(.sl (j 8142) 0 0 0 false),(.sl (j 8144) 0 46 46 true)]) (Nat.le_of_ble_eq_true rfl) rfl]
  try simp only [cf_k]
  refine ok_rn ks.J M5 e4 rfl rfl fun g6 b6 F6 d6 => ?_
  have O6 := O5'.call ks.J M5 F6
  have q6 : Bd a4 := d6 fun r b hr => Nat.lt_succ_of_lt (q4 r b hr)
  try simp only [rn, rns, ex_0, ex_1]
  refine al_m (cs := [z 53,z 3000,(.sl (j 8189) 0 38 38 true)]) T.t38 rfl rfl rfl rfl ks.J F6.m q6 b6 fun r7 g7 b7 M7 O7 P7 => ?_
  have O7' := P7 _ _ O6
  rw [fa_p, Nat.zero_add, l1_at O7.mem (v := (.sl (j 8189) 0 38 38 true)) rfl]
  try simp only [cf_k]
  refine ok_rn ks.J M7 e5 rfl rfl fun g8 b8 F8 d8 => ?_
  have O8 := O7'.call ks.J M7 F8
  have q8 : Bd a5 := d8 fun r b hr => Nat.lt_succ_of_lt (q6 r b hr)
  try simp only [rn, rns, ex_0, ex_1]
  refine al_m (cs := [z 77,z 33152,(.sl (j 8198) 0 1 1 true),(.sl (j 8205) 0 1 1 true),.ns,.ns]) T.t45 rfl rfl rfl rfl ks.J F8.m q8 b8 fun r9 g9 b9 M9 O9 P9 => ?_
  have O9' := P9 _ _ O8
  have h9 : ∀ {r : Nat} {b : B}, (Mt.h (mZ1 (secs - i))).mem.get r = some b → g9.mem.get (j r) = some (rnB j b) := fun hr => M9.mem _ _ (sZ.2 _ _ hr)
  have hz := h9 (r := 8205) rfl
  have hw := h9 (r := 203) rfl
  have he := h9 (r := 202) rfl
  have lID : ∀ κ, pw.l1 (.p r9 0) g9 κ = κ (.i .i64 77) := fun κ => l1_at O9.mem rfl
  have lnX : ∀ κ, pw.ln 4 (.p r3 10) g9 κ = κ (.a [.i .u8 192, .i .u8 168, .i .u8 1, .i .u8 102]) := fun κ => ln_at O9'.mem (Nat.le_of_ble_eq_true rfl) rfl
  have lw : ∀ κ, pw.l1 (.p (j 203) 1) g9 κ = κ (.p (j 202) 0) := fun κ => l1_at hw rfl
  have irE : ∀ κ, pw.ir 8 4 (.p (j 202) 40) (.i .i64 2) κ = κ (.p (j 202) 48) := fun κ => ir_p (by decide)
  have lnE : ∀ κ, pw.ln 4 (.p (j 202) 48) g9 κ = κ (.a [.i .u8 192, .i .u8 168, .i .u8 1, .i .u8 102]) := fun κ => ln_at he (Nat.le_of_ble_eq_true rfl) rfl
  have lA : ∀ κ, pw.l1 (.p r9 3) g9 κ = κ (.sl (j 8205) 0 1 1 true) := fun κ => l1_at O9.mem rfl
  have isA : ∀ κ, pw.is 5 (.sl (j 8205) 0 1 1 true) (.i .i64 0) κ = κ (.p (j 8205) 0) := fun κ => is_sl (by decide)
  have lT : ∀ κ, pw.l1 (.p (j 8205) 3) g9 κ = κ (.i .u32 (secs - i)) := fun κ => l1_at hz rfl
  have ciW : ∀ κ, pw.ci x 3 22 .u32 (.i .i64 i) κ = κ (.i .u32 i) := fun κ => ci_u32 (by omega)
  have sbW : ∀ κ, pw.sb x 22 (.i .u32 secs) (.i .u32 i) κ = κ (.i .u32 (secs - i)) := fun κ => sb_u32 (by omega)
  have e39 : ∀ κ, pw.eq x 39 (z 0) (.i .i64 0) κ = κ (.b true) := fun κ => eq_i
  have eqS : ∀ {t : TypeId} {q : IntKind} {m : Int} {κ : V → Prop}, pw.eq x t (.i q m) (.i q m) κ = κ (.b true) := by
   intro t q m κ
   rw [eq_i, decide_eq_true rfl]
  have el : ∀ κ, pw.ls x 43 (.sl (j 8205) 0 1 1 true) κ = κ (.i .i64 1) := fun κ => ls_m T
  simp only [g1_t, nt_b, Bool.not_false, pk_t, e39, fa_p, nl_p, Nat.zero_add, lID, eqS, lnX, lw, irE, lnE, eq_ad T, lA, el, isA, lT, ciW, sbW]
  exact k _
 ·obtain ⟨h5', ch⟩ := hD1 c hc (s0 := secs) (t0 := i) (v0 := v) h6 (by omega) (by omega) h3 h4 h5
  obtain ⟨a1, e1, ch⟩ := ch.zero
  obtain ⟨a2, e2, ch⟩ := ch.zero
  obtain ⟨a3, e3, ch⟩ := ch.one
  subst ch
  have ks : Kn j 7440 (tA1 (i + 1) 3 ++ tC1 c secs (secs + 1) ++ tD1) g := by
   rw [show drw i = 3 from if_neg (by omega)] at ks
   exact ks
  have q0 : Bd (Mt.h ⟨7440, tA1 (i + 1) 3 ++ tC1 c secs (secs + 1) ++ tD1⟩) := bd_lay (ltK_ok rfl)
  refine ok_rn ks.J ks.m e1 rfl rfl fun g1 b1 F1 d1 => ?_
  refine ok_rn ks.J F1.m e2 rfl rfl fun g2 b2 F2 d2 => ?_
  try simp only [rn, rns, ex_0, ex_1]
  refine al_m (cs := [z 0,z 0,z 0,z 0,z 0,z 0,y 0,y 0,y 0,y 0,y 0,y 0,y 0,y 0,.ns,.ns]) T.t30 rfl rfl rfl rfl ks.J F2.m (d2 (d1 q0)) b2 fun r3 g3 b3 M3 O3 P3 => ?_
  refine ok_rn ks.J M3 e3 rfl rfl fun g4 b4 F4 d4 => ?_
  have q4 : Bd a3 := d4 fun r b hr => Nat.lt_succ_of_lt ((d2 (d1 q0)) r b hr)
  try simp only [rn, rns, ex_0, ex_1]
  refine al_m (cs := [z 0,z 0,z 0,z 0,z 64,z 17,y 203,y 0,y 113,y 1,y 9,y 9,y 9,y 9,(.sl (j 7998) 0 0 0 false),(.sl (j 8000) 0 28 28 true)]) T.t30 rfl rfl rfl rfl ks.J F4.m q4 b4 fun r5 g5 b5 M5 O5 P5 => ?_
  rw [ci_64 (by omega), ge_i, decide_eq_true (by omega), cd_t]
  exact k _
set_option maxHeartbeats 4000000 in
theorem loop1 {x : X} (T : Tx x) {c : Nat} (hc : c < 16) {v secs : Int} (h3 : -9223372036854775808 ≤ v) (h4 : v ≤ 9223372036854775807) (h5 : v % 16 = c) (h6 : 1 ≤ secs) (h7 : secs ≤ 1000) {N : Nat} (hN : N ≤ 50) {K : V → H → Prop} (k : ∀ h', K (.b true) h') :
  ∀ (m f i : Nat) (j : Nat → Nat) (g : H), i + m = N → m < f → Bd g → Kn j 7440 (lT1 c secs i) g → F3_225 pw x (Ok Tryz.prog 99) K f (.i .i64 1) (.i .i64 v) (.i .u32 secs) (.i .i64 N) (.p (j 203) 0) (.i .i64 i) g := by
 intro m
 induction m with
 | zero =>
  intro f i j g hm hf hb kn
  obtain ⟨f, rfl⟩ := Nat.exists_eq_add_of_le' (show 1 ≤ f by omega)
  obtain rfl : i = N := by omega
  rw [S3_225, lt_i, decide_eq_false (by omega), cd_f]
  exact end1 T hc h3 h4 h5 h6 h7 hN hb kn k
 | succ m ih =>
  intro f i j g hm hf hb kn
  obtain ⟨f, rfl⟩ := Nat.exists_eq_add_of_le' (show 1 ≤ f by omega)
  rw [S3_225, lt_i, decide_eq_true (show (i : Int) < (N : Int) by omega), cd_t]
  unfold F3_232
  obtain ⟨v', h', N', e, s⟩ := tick1 i (by omega)
  simp only [bl_st T [(0, .i .i64 0), (5, .i .u32 3)] [z 0, z 0, z 0, z 0, z 0, w 3, w 0, .ns] rfl, cf_k]
  have ks : Kn j 7440 (tA1 (i + 1) (drw i) ++ stB i ++ tD1) g := kn.sub fun p hp => List.mem_append_left _ hp
  refine ok_rn ks.J ks.m e rfl rfl fun g1 b1 F1 _ => ?_
  have hs := stB_or i
  have hs' := stB_or (i + 1)
  have kb := kn.back (a := tA1 (i + 1) (drw i) ++ stB i ++ tD1) (R := tC1 c secs (secs + 1)) F1 s (by rcases hs' with q | q | q | q | q | q <;> rw [q] <;> exact nodupB rfl)
   (fun p hp => ⟨List.mem_append_right _ hp, by rcases hs with q | q | q | q | q | q <;> rw [q] <;> exact noK_ok rfl p hp⟩)
   (by rcases hs' with q | q | q | q | q | q <;> rw [q] <;> exact wfK_ok rfl) (by decide)
  unfold F3_239
  rw [ad_64 (by omega)]
  have := ih f (i + 1) _ g1 (by omega) (by omega) b1 kb
  rw [jN_lt (by decide)] at this
  exact this
set_option maxHeartbeats 8000000 in
theorem law1 {x : X} (T : Tx x) {v id secs : Int} {N : Nat} (h1 : 0 ≤ id) (h2 : id ≤ 65535) (h3 : -9223372036854775808 ≤ v) (h4 : v ≤ 9223372036854775807) (h6 : 1 ≤ secs) (h7 : secs ≤ 1000) (hN : N ≤ 50) {j : Nat → Nat} {g : H} (hb : Bd g) (kn : Kn j 5950 uU g)
  {K : V → H → Prop} (k : ∀ h', K (.b true) h') : F3_21 pw x (Ok Tryz.prog 99) K (.i .i64 1) (.i .i64 v) (.i .i64 id) (.i .u32 secs) (.i .i64 N) (.p (j 203) 0) g := by
 obtain ⟨c, hc⟩ : ∃ c : Nat, v % 16 = c := ⟨(v % 16).toNat, by omega⟩
 have hc16 : c < 16 := by omega
 obtain ⟨_, ch, sS⟩ := hA1 c hc16 h1 h2 h3 h4 hc
 obtain ⟨a1, e1, ch⟩ := ch.zero
 obtain ⟨a2, e2, ch⟩ := ch.zero
 subst ch
 obtain ⟨_, ch, sT⟩ := hB1 c hc16 (i0 := id) h1 h2 h6 h7
 obtain ⟨a4, e4, ch⟩ := ch.zero
 obtain ⟨a5, e5, ch⟩ := ch.zero
 obtain ⟨a7, e7, ch⟩ := ch.one
 obtain ⟨a9, e9, ch⟩ := ch.one
 subst ch
 unfold F3_21
 have q0 : Bd (Mt.h mU) := bd_lay (ltK_ok rfl)
 simp only [bl_st T [(0, .i .i64 9), (1, .i .i64 1), (2, .i .i64 v), (3, .i .i64 id)] [z 9, z 1, .i .i64 v, .i .i64 id, z 0, w 0, w 0, .ns] rfl, bl_st T [(0, .i .i64 10), (6, .i .u32 secs)] [z 10, z 0, z 0, z 0, z 0, w 0, .i .u32 secs, .ns] rfl, cf_k]
 refine ok_rn kn.J kn.m e1 rfl rfl fun g1 b1 F1 d1 => ?_
 refine ok_rn kn.J F1.m e2 rfl rfl fun g2 b2 F2 d2 => ?_
 try simp only [rn, rns, ex_0, ex_1]
 refine al_m (cs := [z 0,z 0,z 0,z 0,z 64,z 17,y 203,y 0,y 113,y 1,y 9,y 9,y 9,y 9,(.sl (j 6630) 0 0 0 false),(.sl (j 6632) 0 28 28 true)]) T.t30 rfl rfl rfl rfl kn.J F2.m (d2 (d1 q0)) b2 fun r3 g3 b3 M3 O3 P3 => ?_
 have k3 := Kn.of kn.J M3 (sub_up sS) (nodupB rfl)
 have O3s := O3.sub (sub_up sS)
 have q3 : Bd (Mt.h ⟨6636, sS1 c id⟩) := bd_lay (ltK_ok rfl)
 refine ok_rn kn.J k3.m e4 rfl rfl fun g4 b4 F4 d4 => ?_
 have O4 := O3s.call kn.J k3.m F4
 refine ok_rn kn.J F4.m e5 rfl rfl fun g5 b5 F5 d5 => ?_
 have O5 := O4.call kn.J F4.m F5
 have q5 := d5 (d4 q3)
 try simp only [rn, rns, ex_0, ex_1]
 refine al_m (cs := [z 0,z 0,z 0,z 0,z 64,z 17,y 192,y 168,y 1,y 1,y 192,y 168,y 1,y 101,(.sl (j 7400) 0 0 0 false),(.sl (j 7402) 0 46 46 true)]) T.t30 rfl rfl rfl rfl kn.J F5.m q5 b5 fun r6 g6 b6 M6 O6 P6 => ?_
 have p6 := P6 _ _ O5
 rw [ln_at O6.mem (cs := [z 0,z 0,z 0,z 0,z 64,z 17,y 192,y 168,y 1,y 1,y 192,y 168,y 1,y 101,(.sl (j 7400) 0 0 0 false),(.sl (j 7402) 0 46 46 true)]) (Nat.le_of_ble_eq_true rfl) rfl]
 try simp only [cf_k]
 refine ok_rn kn.J M6 e7 rfl rfl fun g7 b7 F7 d7 => ?_
 have p7 := p6.call kn.J M6 F7
 have O7 := O6.call kn.J M6 F7
 have q7 : Bd a7 := d7 fun r b hr => Nat.lt_succ_of_lt (q5 r b hr)
 try simp only [rn, rns, ex_0, ex_1]
 refine al_m (cs := [z 53,z 3000,(.sl (j 7422) 0 38 38 true)]) T.t38 rfl rfl rfl rfl kn.J F7.m q7 b7 fun r8 g8 b8 M8 O8 P8 => ?_
 have p8 := P8 _ _ p7
 have O8' := P8 _ _ O7
 rw [fa_p, Nat.zero_add, l1_at O8.mem (v := (.sl (j 7422) 0 38 38 true)) rfl]
 try simp only [cf_k]
 refine ok_rn kn.J M8 e9 rfl rfl fun g9 b9 F9 d9 => ?_
 have p9 := p8.call kn.J M8 F9
 have O9 := O8'.call kn.J M8 F9
 have q9 : Bd a9 := d9 fun r b hr => Nat.lt_succ_of_lt (q7 r b hr)
 try simp only [rn, rns, ex_0, ex_1]
 refine al_m (cs := [(.i .i64 id),z 33152,(.sl (j 7431) 0 1 1 true),(.sl (j 7438) 0 1 1 true),.ns,.ns]) T.t45 rfl rfl rfl rfl kn.J F9.m q9 b9 fun r10 g10 b10 M10 O10 P10 => ?_
 have p10 := P10 _ _ p9
 have O10' := P10 _ _ O9
 have k10 : Kn j 7440 (tA1 1 5 ++ tB0 ++ tC1 c secs (secs + 1) ++ tD1) g10 := Kn.of kn.J M10 (sub_up sT) (nodupB rfl)
 have h9 : ∀ {r : Nat} {b : B}, (r, b) ∈ tD1 → g10.mem.get (j r) = some (rnB j b) := fun hr => k10.mem _ _ (List.mem_append_right _ hr)
 have hw := h9 (r := 203) (layB_get (l := tD1) rfl)
 have he := h9 (r := 202) (layB_get (l := tD1) rfl)
 have lnP : ∀ κ, pw.ln 4 (.p r3 10) g10 κ = κ (.a [.i .u8 9, .i .u8 9, .i .u8 9, .i .u8 9]) := fun κ => ln_at p10.mem (Nat.le_of_ble_eq_true rfl) rfl
 have bl9 : ∀ κ, pw.bl x 27 [(0, .i .u8 9), (1, .i .u8 9), (2, .i .u8 9), (3, .i .u8 9)] κ = κ (.a [.i .u8 9, .i .u8 9, .i .u8 9, .i .u8 9]) := fun κ => bl_ad T rfl rfl
 have lID : ∀ κ, pw.l1 (.p r10 0) g10 κ = κ (.i .i64 id) := fun κ => l1_at O10.mem rfl
 have lnX : ∀ κ, pw.ln 4 (.p r6 10) g10 κ = κ (.a [.i .u8 192, .i .u8 168, .i .u8 1, .i .u8 101]) := fun κ => ln_at O10'.mem (Nat.le_of_ble_eq_true rfl) rfl
 have lw : ∀ κ, pw.l1 (.p (j 203) 1) g10 κ = κ (.p (j 202) 0) := fun κ => l1_at hw rfl
 have irE : ∀ κ, pw.ir 8 4 (.p (j 202) 40) (.i .i64 1) κ = κ (.p (j 202) 44) := fun κ => ir_p (by decide)
 have lnE : ∀ κ, pw.ln 4 (.p (j 202) 44) g10 κ = κ (.a [.i .u8 192, .i .u8 168, .i .u8 1, .i .u8 101]) := fun κ => ln_at he (Nat.le_of_ble_eq_true rfl) rfl
 have lA : ∀ κ, pw.l1 (.p r10 3) g10 κ = κ (.sl (j 7438) 0 1 1 true) := fun κ => l1_at O10.mem rfl
 have el : ∀ κ, pw.ls x 43 (.sl (j 7438) 0 1 1 true) κ = κ (.i .i64 1) := fun κ => ls_m T
 have n39 : ∀ κ, pw.ne x 39 (z 0) (.i .i64 0) κ = κ (.b false) := fun κ => ne_i
 have neS : ∀ {t : TypeId} {q : IntKind} {m : Int} {κ : V → Prop}, pw.ne x t (.i q m) (.i q m) κ = κ (.b false) := by
  intro t q m κ
  rw [ne_i, decide_eq_true rfl, Bool.not_true]
 simp only [nt_b, Bool.not_true, g0_f, pk_f, fa_p, nl_p, Nat.zero_add, lnP, bl9, ne_ad T, n39, lID, neS, lA, el, lnX, lw, irE, lnE, cd_f]
 unfold F3_69
 have kl : Kn j 7440 (lT1 c secs 0) g10 := k10.sub fun p hp => by
  simp only [lT1, List.mem_append] at hp ⊢
  rcases hp with ((a | a) | a) | a
  ·exact .inl (.inl (.inl a))
  ·exact .inl (.inl (.inr a))
  ·exact .inr a
  ·exact .inl (.inr a)
 exact loop1 T hc16 h3 h4 hc h6 h7 hN k N 100000 0 j g10 (by omega) (by omega) b10 kl
def lT2 (c : Nat) (s : Int) (i : Nat) : List (Nat × B) := (tA2 (i + 1) (drw i) ++ stB i ++ tD2) ++ tC2 c s (s + 1)
set_option maxHeartbeats 4000000 in
theorem end2 {x : X} (T : Tx x) {c : Nat} (hc : c < 16) {v secs : Int} (h3 : -9223372036854775808 ≤ v) (h4 : v ≤ 9223372036854775807) (h5 : v % 16 = c) (h6 : 1 ≤ secs) (h7 : secs ≤ 1000) {i : Nat} (hi : i ≤ 50) {j : Nat → Nat} {g : H} (hb : Bd g) (kn : Kn j 7441 (lT2 c secs i) g)
  {K : V → H → Prop} (k : ∀ h', K (.b true) h') : F3_75 pw x (Ok Tryz.prog 99) K (.i .i64 2) (.i .i64 v) (.i .u32 secs) (.i .i64 i) (.p (j 203) 0) g := by
 unfold F3_75
 rw [ad_64 (by decide), re_64 (by decide)]
 simp only [show ((2 + 1 : Int) % 3) = 0 from rfl, bl_st T [(0, .i .i64 9), (1, .i .i64 0), (2, .i .i64 v), (3, .i .i64 77)] [z 9, z 0, .i .i64 v, z 77, z 0, w 0, w 0, .ns] rfl, cf_k]
 have ks : Kn j 7441 (tA2 (i + 1) (drw i) ++ tC2 c secs (secs + 1) ++ tD2) g := kn.sub fun p hp => by
  simp only [lT2, List.mem_append] at hp ⊢
  rcases hp with (a | a) | a
  ·exact .inl (.inl (.inl a))
  ·exact .inr a
  ·exact .inl (.inr a)
 by_cases q : (i : Int) < secs
 ·obtain ⟨h5', ch, sZ⟩ := hC2 c hc (s0 := secs) (t0 := i) (v0 := v) (d0 := drw i) (by omega) (by omega) q h7 (by unfold drw; split <;> omega) (by unfold drw; split <;> omega) h3 h4 h5
  obtain ⟨a1, e1, ch⟩ := ch.zero
  obtain ⟨a2, e2, ch⟩ := ch.zero
  obtain ⟨a3, e3, ch⟩ := ch.one
  obtain ⟨a4, e4, ch⟩ := ch.one
  obtain ⟨a5, e5, ch⟩ := ch.one
  subst ch
  have q0 : Bd (Mt.h ⟨7441, tA2 (i + 1) (drw i) ++ tC2 c secs (secs + 1) ++ tD2⟩) := bd_lay (ltK_ok rfl)
  refine ok_rn ks.J ks.m e1 rfl rfl fun g1 b1 F1 d1 => ?_
  refine ok_rn ks.J F1.m e2 rfl rfl fun g2 b2 F2 d2 => ?_
  try simp only [rn, rns, ex_0, ex_1]
  refine al_m (cs := [z 0,z 0,z 0,z 0,z 64,z 17,y 192,y 168,y 1,y 1,y 192,y 168,y 1,y 100,(.sl (j 8141) 0 0 0 false),(.sl (j 8143) 0 46 46 true)]) T.t30 rfl rfl rfl rfl ks.J F2.m (d2 (d1 q0)) b2 fun r3 g3 b3 M3 O3 P3 => ?_
  refine ok_rn ks.J M3 e3 rfl rfl fun g4 b4 F4 d4 => ?_
  have O4 := O3.call ks.J M3 F4
  have q4 : Bd a3 := d4 fun r b hr => Nat.lt_succ_of_lt ((d2 (d1 q0)) r b hr)
  try simp only [rn, rns, ex_0, ex_1]
  refine al_m (cs := [z 0,z 0,z 0,z 0,z 0,z 0,y 0,y 0,y 0,y 0,y 0,y 0,y 0,y 0,.ns,.ns]) T.t30 rfl rfl rfl rfl ks.J F4.m q4 b4 fun r5 g5 b5 M5 O5 P5 => ?_
  have O5' := P5 _ _ O4
  rw [ci_64 (by omega), ge_i, decide_eq_false (by omega), cd_f]
  unfold F3_107
  rw [ln_at O5'.mem (cs := [z 0,z 0,z 0,z 0,z 64,z 17,y 192,y 168,y 1,y 1,y 192,y 168,y 1,y 100,(.sl (j 8141) 0 0 0 false),(.sl (j 8143) 0 46 46 true)]) (Nat.le_of_ble_eq_true rfl) rfl]
  try simp only [cf_k]
  refine ok_rn ks.J M5 e4 rfl rfl fun g6 b6 F6 d6 => ?_
  have O6 := O5'.call ks.J M5 F6
  have q6 : Bd a4 := d6 fun r b hr => Nat.lt_succ_of_lt (q4 r b hr)
  try simp only [rn, rns, ex_0, ex_1]
  refine al_m (cs := [z 53,z 3000,(.sl (j 8188) 0 38 38 true)]) T.t38 rfl rfl rfl rfl ks.J F6.m q6 b6 fun r7 g7 b7 M7 O7 P7 => ?_
  have O7' := P7 _ _ O6
  rw [fa_p, Nat.zero_add, l1_at O7.mem (v := (.sl (j 8188) 0 38 38 true)) rfl]
  try simp only [cf_k]
  refine ok_rn ks.J M7 e5 rfl rfl fun g8 b8 F8 d8 => ?_
  have O8 := O7'.call ks.J M7 F8
  have q8 : Bd a5 := d8 fun r b hr => Nat.lt_succ_of_lt (q6 r b hr)
  try simp only [rn, rns, ex_0, ex_1]
  refine al_m (cs := [z 77,z 33152,(.sl (j 8197) 0 1 1 true),(.sl (j 8204) 0 1 1 true),.ns,.ns]) T.t45 rfl rfl rfl rfl ks.J F8.m q8 b8 fun r9 g9 b9 M9 O9 P9 => ?_
  have O9' := P9 _ _ O8
  have h9 : ∀ {r : Nat} {b : B}, (Mt.h (mZ2 (secs - i))).mem.get r = some b → g9.mem.get (j r) = some (rnB j b) := fun hr => M9.mem _ _ (sZ.2 _ _ hr)
  have hz := h9 (r := 8204) rfl
  have hw := h9 (r := 203) rfl
  have he := h9 (r := 202) rfl
  have lID : ∀ κ, pw.l1 (.p r9 0) g9 κ = κ (.i .i64 77) := fun κ => l1_at O9.mem rfl
  have lnX : ∀ κ, pw.ln 4 (.p r3 10) g9 κ = κ (.a [.i .u8 192, .i .u8 168, .i .u8 1, .i .u8 100]) := fun κ => ln_at O9'.mem (Nat.le_of_ble_eq_true rfl) rfl
  have lw : ∀ κ, pw.l1 (.p (j 203) 1) g9 κ = κ (.p (j 202) 0) := fun κ => l1_at hw rfl
  have irE : ∀ κ, pw.ir 8 4 (.p (j 202) 40) (.i .i64 0) κ = κ (.p (j 202) 40) := fun κ => ir_p (by decide)
  have lnE : ∀ κ, pw.ln 4 (.p (j 202) 40) g9 κ = κ (.a [.i .u8 192, .i .u8 168, .i .u8 1, .i .u8 100]) := fun κ => ln_at he (Nat.le_of_ble_eq_true rfl) rfl
  have lA : ∀ κ, pw.l1 (.p r9 3) g9 κ = κ (.sl (j 8204) 0 1 1 true) := fun κ => l1_at O9.mem rfl
  have isA : ∀ κ, pw.is 5 (.sl (j 8204) 0 1 1 true) (.i .i64 0) κ = κ (.p (j 8204) 0) := fun κ => is_sl (by decide)
  have lT : ∀ κ, pw.l1 (.p (j 8204) 3) g9 κ = κ (.i .u32 (secs - i)) := fun κ => l1_at hz rfl
  have ciW : ∀ κ, pw.ci x 3 22 .u32 (.i .i64 i) κ = κ (.i .u32 i) := fun κ => ci_u32 (by omega)
  have sbW : ∀ κ, pw.sb x 22 (.i .u32 secs) (.i .u32 i) κ = κ (.i .u32 (secs - i)) := fun κ => sb_u32 (by omega)
  have e39 : ∀ κ, pw.eq x 39 (z 0) (.i .i64 0) κ = κ (.b true) := fun κ => eq_i
  have eqS : ∀ {t : TypeId} {q : IntKind} {m : Int} {κ : V → Prop}, pw.eq x t (.i q m) (.i q m) κ = κ (.b true) := by
   intro t q m κ
   rw [eq_i, decide_eq_true rfl]
  have el : ∀ κ, pw.ls x 43 (.sl (j 8204) 0 1 1 true) κ = κ (.i .i64 1) := fun κ => ls_m T
  simp only [g1_t, nt_b, Bool.not_false, pk_t, e39, fa_p, nl_p, Nat.zero_add, lID, eqS, lnX, lw, irE, lnE, eq_ad T, lA, el, isA, lT, ciW, sbW]
  exact k _
 ·obtain ⟨h5', ch⟩ := hD2 c hc (s0 := secs) (t0 := i) (v0 := v) h6 (by omega) (by omega) h3 h4 h5
  obtain ⟨a1, e1, ch⟩ := ch.zero
  obtain ⟨a2, e2, ch⟩ := ch.zero
  obtain ⟨a3, e3, ch⟩ := ch.one
  subst ch
  have ks : Kn j 7441 (tA2 (i + 1) 3 ++ tC2 c secs (secs + 1) ++ tD2) g := by
   rw [show drw i = 3 from if_neg (by omega)] at ks
   exact ks
  have q0 : Bd (Mt.h ⟨7441, tA2 (i + 1) 3 ++ tC2 c secs (secs + 1) ++ tD2⟩) := bd_lay (ltK_ok rfl)
  refine ok_rn ks.J ks.m e1 rfl rfl fun g1 b1 F1 d1 => ?_
  refine ok_rn ks.J F1.m e2 rfl rfl fun g2 b2 F2 d2 => ?_
  try simp only [rn, rns, ex_0, ex_1]
  refine al_m (cs := [z 0,z 0,z 0,z 0,z 0,z 0,y 0,y 0,y 0,y 0,y 0,y 0,y 0,y 0,.ns,.ns]) T.t30 rfl rfl rfl rfl ks.J F2.m (d2 (d1 q0)) b2 fun r3 g3 b3 M3 O3 P3 => ?_
  refine ok_rn ks.J M3 e3 rfl rfl fun g4 b4 F4 d4 => ?_
  have q4 : Bd a3 := d4 fun r b hr => Nat.lt_succ_of_lt ((d2 (d1 q0)) r b hr)
  try simp only [rn, rns, ex_0, ex_1]
  refine al_m (cs := [z 0,z 0,z 0,z 0,z 64,z 17,y 203,y 0,y 113,y 1,y 9,y 9,y 9,y 9,(.sl (j 7997) 0 0 0 false),(.sl (j 7999) 0 28 28 true)]) T.t30 rfl rfl rfl rfl ks.J F4.m q4 b4 fun r5 g5 b5 M5 O5 P5 => ?_
  rw [ci_64 (by omega), ge_i, decide_eq_true (by omega), cd_t]
  exact k _
set_option maxHeartbeats 4000000 in
theorem loop2 {x : X} (T : Tx x) {c : Nat} (hc : c < 16) {v secs : Int} (h3 : -9223372036854775808 ≤ v) (h4 : v ≤ 9223372036854775807) (h5 : v % 16 = c) (h6 : 1 ≤ secs) (h7 : secs ≤ 1000) {N : Nat} (hN : N ≤ 50) {K : V → H → Prop} (k : ∀ h', K (.b true) h') :
  ∀ (m f i : Nat) (j : Nat → Nat) (g : H), i + m = N → m < f → Bd g → Kn j 7441 (lT2 c secs i) g → F3_225 pw x (Ok Tryz.prog 99) K f (.i .i64 2) (.i .i64 v) (.i .u32 secs) (.i .i64 N) (.p (j 203) 0) (.i .i64 i) g := by
 intro m
 induction m with
 | zero =>
  intro f i j g hm hf hb kn
  obtain ⟨f, rfl⟩ := Nat.exists_eq_add_of_le' (show 1 ≤ f by omega)
  obtain rfl : i = N := by omega
  rw [S3_225, lt_i, decide_eq_false (by omega), cd_f]
  exact end2 T hc h3 h4 h5 h6 h7 hN hb kn k
 | succ m ih =>
  intro f i j g hm hf hb kn
  obtain ⟨f, rfl⟩ := Nat.exists_eq_add_of_le' (show 1 ≤ f by omega)
  rw [S3_225, lt_i, decide_eq_true (show (i : Int) < (N : Int) by omega), cd_t]
  unfold F3_232
  obtain ⟨v', h', N', e, s⟩ := tick2 i (by omega)
  simp only [bl_st T [(0, .i .i64 0), (5, .i .u32 3)] [z 0, z 0, z 0, z 0, z 0, w 3, w 0, .ns] rfl, cf_k]
  have ks : Kn j 7441 (tA2 (i + 1) (drw i) ++ stB i ++ tD2) g := kn.sub fun p hp => List.mem_append_left _ hp
  refine ok_rn ks.J ks.m e rfl rfl fun g1 b1 F1 _ => ?_
  have hs := stB_or i
  have hs' := stB_or (i + 1)
  have kb := kn.back (a := tA2 (i + 1) (drw i) ++ stB i ++ tD2) (R := tC2 c secs (secs + 1)) F1 s (by rcases hs' with q | q | q | q | q | q <;> rw [q] <;> exact nodupB rfl)
   (fun p hp => ⟨List.mem_append_right _ hp, by rcases hs with q | q | q | q | q | q <;> rw [q] <;> exact noK_ok rfl p hp⟩)
   (by rcases hs' with q | q | q | q | q | q <;> rw [q] <;> exact wfK_ok rfl) (by decide)
  unfold F3_239
  rw [ad_64 (by omega)]
  have := ih f (i + 1) _ g1 (by omega) (by omega) b1 kb
  rw [jN_lt (by decide)] at this
  exact this
set_option maxHeartbeats 8000000 in
theorem law2 {x : X} (T : Tx x) {v id secs : Int} {N : Nat} (h1 : 0 ≤ id) (h2 : id ≤ 65535) (h3 : -9223372036854775808 ≤ v) (h4 : v ≤ 9223372036854775807) (h6 : 1 ≤ secs) (h7 : secs ≤ 1000) (hN : N ≤ 50) {j : Nat → Nat} {g : H} (hb : Bd g) (kn : Kn j 5950 uU g)
  {K : V → H → Prop} (k : ∀ h', K (.b true) h') : F3_21 pw x (Ok Tryz.prog 99) K (.i .i64 2) (.i .i64 v) (.i .i64 id) (.i .u32 secs) (.i .i64 N) (.p (j 203) 0) g := by
 obtain ⟨c, hc⟩ : ∃ c : Nat, v % 16 = c := ⟨(v % 16).toNat, by omega⟩
 have hc16 : c < 16 := by omega
 obtain ⟨_, ch, sS⟩ := hA2 c hc16 h1 h2 h3 h4 hc
 obtain ⟨a1, e1, ch⟩ := ch.zero
 obtain ⟨a2, e2, ch⟩ := ch.zero
 subst ch
 obtain ⟨_, ch, sT⟩ := hB2 c hc16 (i0 := id) h1 h2 h6 h7
 obtain ⟨a4, e4, ch⟩ := ch.zero
 obtain ⟨a5, e5, ch⟩ := ch.zero
 obtain ⟨a7, e7, ch⟩ := ch.one
 obtain ⟨a9, e9, ch⟩ := ch.one
 subst ch
 unfold F3_21
 have q0 : Bd (Mt.h mU) := bd_lay (ltK_ok rfl)
 simp only [bl_st T [(0, .i .i64 9), (1, .i .i64 2), (2, .i .i64 v), (3, .i .i64 id)] [z 9, z 2, .i .i64 v, .i .i64 id, z 0, w 0, w 0, .ns] rfl, bl_st T [(0, .i .i64 10), (6, .i .u32 secs)] [z 10, z 0, z 0, z 0, z 0, w 0, .i .u32 secs, .ns] rfl, cf_k]
 refine ok_rn kn.J kn.m e1 rfl rfl fun g1 b1 F1 d1 => ?_
 refine ok_rn kn.J F1.m e2 rfl rfl fun g2 b2 F2 d2 => ?_
 try simp only [rn, rns, ex_0, ex_1]
 refine al_m (cs := [z 0,z 0,z 0,z 0,z 64,z 17,y 203,y 0,y 113,y 1,y 9,y 9,y 9,y 9,(.sl (j 6631) 0 0 0 false),(.sl (j 6633) 0 28 28 true)]) T.t30 rfl rfl rfl rfl kn.J F2.m (d2 (d1 q0)) b2 fun r3 g3 b3 M3 O3 P3 => ?_
 have k3 := Kn.of kn.J M3 (sub_up sS) (nodupB rfl)
 have O3s := O3.sub (sub_up sS)
 have q3 : Bd (Mt.h ⟨6637, sS2 c id⟩) := bd_lay (ltK_ok rfl)
 refine ok_rn kn.J k3.m e4 rfl rfl fun g4 b4 F4 d4 => ?_
 have O4 := O3s.call kn.J k3.m F4
 refine ok_rn kn.J F4.m e5 rfl rfl fun g5 b5 F5 d5 => ?_
 have O5 := O4.call kn.J F4.m F5
 have q5 := d5 (d4 q3)
 try simp only [rn, rns, ex_0, ex_1]
 refine al_m (cs := [z 0,z 0,z 0,z 0,z 64,z 17,y 192,y 168,y 1,y 1,y 192,y 168,y 1,y 102,(.sl (j 7401) 0 0 0 false),(.sl (j 7403) 0 46 46 true)]) T.t30 rfl rfl rfl rfl kn.J F5.m q5 b5 fun r6 g6 b6 M6 O6 P6 => ?_
 have p6 := P6 _ _ O5
 rw [ln_at O6.mem (cs := [z 0,z 0,z 0,z 0,z 64,z 17,y 192,y 168,y 1,y 1,y 192,y 168,y 1,y 102,(.sl (j 7401) 0 0 0 false),(.sl (j 7403) 0 46 46 true)]) (Nat.le_of_ble_eq_true rfl) rfl]
 try simp only [cf_k]
 refine ok_rn kn.J M6 e7 rfl rfl fun g7 b7 F7 d7 => ?_
 have p7 := p6.call kn.J M6 F7
 have O7 := O6.call kn.J M6 F7
 have q7 : Bd a7 := d7 fun r b hr => Nat.lt_succ_of_lt (q5 r b hr)
 try simp only [rn, rns, ex_0, ex_1]
 refine al_m (cs := [z 53,z 3000,(.sl (j 7423) 0 38 38 true)]) T.t38 rfl rfl rfl rfl kn.J F7.m q7 b7 fun r8 g8 b8 M8 O8 P8 => ?_
 have p8 := P8 _ _ p7
 have O8' := P8 _ _ O7
 rw [fa_p, Nat.zero_add, l1_at O8.mem (v := (.sl (j 7423) 0 38 38 true)) rfl]
 try simp only [cf_k]
 refine ok_rn kn.J M8 e9 rfl rfl fun g9 b9 F9 d9 => ?_
 have p9 := p8.call kn.J M8 F9
 have O9 := O8'.call kn.J M8 F9
 have q9 : Bd a9 := d9 fun r b hr => Nat.lt_succ_of_lt (q7 r b hr)
 try simp only [rn, rns, ex_0, ex_1]
 refine al_m (cs := [(.i .i64 id),z 33152,(.sl (j 7432) 0 1 1 true),(.sl (j 7439) 0 1 1 true),.ns,.ns]) T.t45 rfl rfl rfl rfl kn.J F9.m q9 b9 fun r10 g10 b10 M10 O10 P10 => ?_
 have p10 := P10 _ _ p9
 have O10' := P10 _ _ O9
 have k10 : Kn j 7441 (tA2 1 5 ++ tB0 ++ tC2 c secs (secs + 1) ++ tD2) g10 := Kn.of kn.J M10 (sub_up sT) (nodupB rfl)
 have h9 : ∀ {r : Nat} {b : B}, (r, b) ∈ tD2 → g10.mem.get (j r) = some (rnB j b) := fun hr => k10.mem _ _ (List.mem_append_right _ hr)
 have hw := h9 (r := 203) (layB_get (l := tD2) rfl)
 have he := h9 (r := 202) (layB_get (l := tD2) rfl)
 have lnP : ∀ κ, pw.ln 4 (.p r3 10) g10 κ = κ (.a [.i .u8 9, .i .u8 9, .i .u8 9, .i .u8 9]) := fun κ => ln_at p10.mem (Nat.le_of_ble_eq_true rfl) rfl
 have bl9 : ∀ κ, pw.bl x 27 [(0, .i .u8 9), (1, .i .u8 9), (2, .i .u8 9), (3, .i .u8 9)] κ = κ (.a [.i .u8 9, .i .u8 9, .i .u8 9, .i .u8 9]) := fun κ => bl_ad T rfl rfl
 have lID : ∀ κ, pw.l1 (.p r10 0) g10 κ = κ (.i .i64 id) := fun κ => l1_at O10.mem rfl
 have lnX : ∀ κ, pw.ln 4 (.p r6 10) g10 κ = κ (.a [.i .u8 192, .i .u8 168, .i .u8 1, .i .u8 102]) := fun κ => ln_at O10'.mem (Nat.le_of_ble_eq_true rfl) rfl
 have lw : ∀ κ, pw.l1 (.p (j 203) 1) g10 κ = κ (.p (j 202) 0) := fun κ => l1_at hw rfl
 have irE : ∀ κ, pw.ir 8 4 (.p (j 202) 40) (.i .i64 2) κ = κ (.p (j 202) 48) := fun κ => ir_p (by decide)
 have lnE : ∀ κ, pw.ln 4 (.p (j 202) 48) g10 κ = κ (.a [.i .u8 192, .i .u8 168, .i .u8 1, .i .u8 102]) := fun κ => ln_at he (Nat.le_of_ble_eq_true rfl) rfl
 have lA : ∀ κ, pw.l1 (.p r10 3) g10 κ = κ (.sl (j 7439) 0 1 1 true) := fun κ => l1_at O10.mem rfl
 have el : ∀ κ, pw.ls x 43 (.sl (j 7439) 0 1 1 true) κ = κ (.i .i64 1) := fun κ => ls_m T
 have n39 : ∀ κ, pw.ne x 39 (z 0) (.i .i64 0) κ = κ (.b false) := fun κ => ne_i
 have neS : ∀ {t : TypeId} {q : IntKind} {m : Int} {κ : V → Prop}, pw.ne x t (.i q m) (.i q m) κ = κ (.b false) := by
  intro t q m κ
  rw [ne_i, decide_eq_true rfl, Bool.not_true]
 simp only [nt_b, Bool.not_true, g0_f, pk_f, fa_p, nl_p, Nat.zero_add, lnP, bl9, ne_ad T, n39, lID, neS, lA, el, lnX, lw, irE, lnE, cd_f]
 unfold F3_69
 have kl : Kn j 7441 (lT2 c secs 0) g10 := k10.sub fun p hp => by
  simp only [lT2, List.mem_append] at hp ⊢
  rcases hp with ((a | a) | a) | a
  ·exact .inl (.inl (.inl a))
  ·exact .inl (.inl (.inr a))
  ·exact .inr a
  ·exact .inl (.inr a)
 exact loop2 T hc16 h3 h4 hc h6 h7 hN k N 100000 0 j g10 (by omega) (by omega) b10 kl
set_option maxHeartbeats 8000000 in
theorem law_ok {g : H} (h16 : 16 ≤ g.next) {n v id secs wait : Int} (h3 : -9223372036854775808 ≤ v) (h4 : v ≤ 9223372036854775807) {K : V → H → Prop} (k : ∀ h', K (.b true) h') : Ok Tryz.prog 100 3 [.i .i64 n, .i .i64 v, .i .i64 id, .i .u32 secs, .i .i64 wait] g K := by
 refine Ok.bd (K3 fun hbd => ?_)
 unfold F3
 have T := txx
 generalize mkX Tryz.prog = x at T ⊢
 try simp only [cf_k]
 refine awake_ok h16 fun g1 b1 f1 => ?_
 simp only [nt_b, Bool.not_true, cd_f]
 unfold F3_7
 have go : ∀ {c : Prop} [Decidable c], c ∨ ¬ c := fun {c} _ => Decidable.em c
 by_cases q1 : n < 0
 ·simp only [lt_i, gt_i, decide_eq_true q1, g0_t, pk_t, cd_t]
  exact fun _ => k _
 by_cases q2 : 2 < n
 ·simp only [lt_i, gt_i, decide_eq_false q1, decide_eq_true q2, g0_t, g0_f, pk_t, pk_f, cd_t]
  exact fun _ => k _
 by_cases q3 : id < 0
 ·simp only [lt_i, gt_i, decide_eq_false q1, decide_eq_false q2, decide_eq_true q3, g0_t, g0_f, pk_t, pk_f, cd_t]
  exact fun _ => k _
 by_cases q4 : 65535 < id
 ·simp only [lt_i, gt_i, decide_eq_false q1, decide_eq_false q2, decide_eq_false q3, decide_eq_true q4, g0_t, g0_f, pk_t, pk_f, cd_t]
  exact fun _ => k _
 by_cases q5 : secs < 1
 ·simp only [lt_i, gt_i, decide_eq_false q1, decide_eq_false q2, decide_eq_false q3, decide_eq_false q4, decide_eq_true q5, g0_t, g0_f, pk_t, pk_f, cd_t]
  exact fun _ => k _
 by_cases q6 : 1000 < secs
 ·simp only [lt_i, gt_i, decide_eq_false q1, decide_eq_false q2, decide_eq_false q3, decide_eq_false q4, decide_eq_false q5, decide_eq_true q6, g0_t, g0_f, pk_t, pk_f, cd_t]
  exact fun _ => k _
 by_cases q7 : wait < 0
 ·simp only [lt_i, gt_i, decide_eq_false q1, decide_eq_false q2, decide_eq_false q3, decide_eq_false q4, decide_eq_false q5, decide_eq_false q6, decide_eq_true q7, g0_t, g0_f, pk_t, pk_f, cd_t]
  exact fun _ => k _
 by_cases q8 : 50 < wait
 ·simp only [lt_i, gt_i, decide_eq_false q1, decide_eq_false q2, decide_eq_false q3, decide_eq_false q4, decide_eq_false q5, decide_eq_false q6, decide_eq_false q7, decide_eq_true q8, g0_t, g0_f, pk_t, pk_f, cd_t]
  exact fun _ => k _
 simp only [lt_i, gt_i, decide_eq_false q1, decide_eq_false q2, decide_eq_false q3, decide_eq_false q4, decide_eq_false q5, decide_eq_false q6, decide_eq_false q7, decide_eq_false q8, g0_f, pk_f, cd_f]
 unfold F3_13
 try simp only [cf_k]
 refine up_ok f1 fun g2 j b2 k2 => ?_
 simp only [rn_p, eq_w T, cd_f]
 obtain ⟨N, rfl⟩ : ∃ N : Nat, wait = N := ⟨wait.toNat, by omega⟩
 have hn : n = 0 ∨ n = 1 ∨ n = 2 := by omega
 rcases hn with rfl | rfl | rfl
 ·exact law0 T (by omega) (by omega) h3 h4 (by omega) (by omega) (by omega) b2 k2 fun h' _ => k h'
 ·exact law1 T (by omega) (by omega) h3 h4 (by omega) (by omega) (by omega) b2 k2 fun h' _ => k h'
 ·exact law2 T (by omega) (by omega) h3 h4 (by omega) (by omega) (by omega) b2 k2 fun h' _ => k h'
end Go.Proofs.YtpegimipbigmbaaGreatDoor.topAsks
