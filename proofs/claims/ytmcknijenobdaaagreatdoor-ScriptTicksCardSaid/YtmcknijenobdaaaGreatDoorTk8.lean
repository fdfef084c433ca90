/- A script, run. -/
import Derived.Test.YtmcknijenobdaaaGreatDoorTk7
set_option linter.unusedSimpArgs false
set_option linter.unusedVariables false
set_option linter.unusedSectionVars false
set_option linter.unnecessarySimpa false
set_option maxRecDepth 100000
namespace Go.Proofs.YtmcknijenobdaaaGreatDoor.Wb
open Go Go.Am Go.Am.Xm

theorem vec_same {h h' : H} {v : V} {el sz n : Nat} {cells : List V} (hv : Vec h v el sz cells n) (hs : ∀ z, vblk v = some z → h'.mem.get z = h.mem.get z) : Vec h' v el sz cells n := by
  obtain ⟨h0, h1⟩ := hv
  refine ⟨h0, ?_⟩
  rcases h1 with h1 | ⟨r, cap, e, l, rfl, h2, h3⟩
  · exact .inl h1
  · exact .inr ⟨r, cap, e, l, rfl, by rw [hs r rfl]; exact h2, h3⟩
theorem bld_same {h h' : H} {tb el : TypeId} {r : Nat} {s : V} {bs : Bs} (b : Bld h tb el r s bs) (hn : h.next ≤ h'.next) (hr : h'.mem.get r = h.mem.get r) (hs : ∀ z, vblk s = some z → h'.mem.get z = h.mem.get z) : Bld h' tb el r s bs := by
  obtain ⟨a, ha, hn2⟩ := b.at_
  exact ⟨⟨a, by rw [hr]; exact ha, hn2⟩, vec_same b.vec hs, b.ne, fun z hz => Nat.lt_of_lt_of_le (b.lt z hz) hn, Nat.lt_of_lt_of_le b.rlt hn, b.nz⟩

/-- What a line does to the time, and tells. -/
def kL (k : Nat) : Ln → Nat
  | some m => k + m
  | none => k
def tL (k : Nat) : Ln → Bs
  | some m => fru k m
  | none => dgN k ++ [10]
def outL (k : Nat) : List Ln → Bs
  | [] => []
  | l :: L => tL k l ++ outL (kL k l) L
def endL (k : Nat) : List Ln → Nat
  | [] => k
  | l :: L => endL (kL k l) L

theorem fmt_ok {k : Nat} (hk : k ≤ 300) {h : H} (h16 : 16 ≤ h.next) (G : Gl h G10) {K : V → H → Prop} (c : ∀ h', Bd h' → But h h' none → K (.s (dgN k)) h') : Ok Tryz.prog 97 23 [.i .i64 k, .i .i64 10] h K := by
  have hB := fmtBA k hk
  unfold fmtB at hB
  have := ok_stepR hB (Sit.nil h h16) G (K := K) fun h' hbd A' hnx hex hkeep => c h' hbd ⟨by omega, fun r hr _ => hkeep r hr (fun i hi => by simp at hi), fun _ => hbd⟩
  exact this

theorem play_ok {l : Ln} {k : Nat} (hkl : kL k l ≤ 300) {h0 h : H} {q : Nat → Nat} {p : Nat} (P : Pl h0 h q p k) (G : Gl h0 G10) {K : V → H → Prop}
    (c : ∀ h', Bd h' → Pl h0 h' q p (kL k l) → h.next ≤ h'.next → (∀ r, r < h.next → r ≠ p → (∀ i, i < 13 → q (16 + i) ≠ r) → h'.mem.get r = h.mem.get r) → K (.s (tL k l)) h') : Ok Tryz.prog 98 11 [.p p 0, .a (encL l)] h K := by
  refine Ok.bd (K11 fun hbd => ?_)
  unfold F11
  refine bx_a (cs := encL l) rfl fun r1 h1 g1 f1 l1 l1' => ?_
  try simp (disch := omega) only [ws, Nat.zero_add]
  have P1 := P.keep f1 (by simp)
  cases l with
  | some m =>
    rw [l1_a g1 (x := .s tickW) rfl]
    simp only [c11, eq_s, show (tickW == ([108, 97, 110] : Bs)) = false from rfl, show (tickW == ([119, 97, 110] : Bs)) = false from rfl, show (tickW == ([116, 105, 99, 107] : Bs)) = true from rfl, cd_f, cd_t]
    try simp (disch := omega) only [ws, Nat.zero_add]
    rw [l1_a g1 (x := .i .i64 m) rfl]
    try simp only [cf_k]
    refine ticks_ok hkl P1 fun h2 hb2 P2 hn2 hk2 hb2' => ?_
    exact c h2 hb2 P2 (Nat.le_trans f1.1 hn2) fun r hr hrp hrq => by
      rw [hk2 r (Nat.lt_of_lt_of_le hr f1.1) hrp hrq, f1.2.1 r hr (by simp)]
  | none =>
    rw [l1_a g1 (x := .s nowW) rfl]
    simp only [c11, eq_s, show (nowW == ([108, 97, 110] : Bs)) = false from rfl, show (nowW == ([119, 97, 110] : Bs)) = false from rfl, show (nowW == ([116, 105, 99, 107] : Bs)) = false from rfl, show (nowW == ([98, 111, 111, 116] : Bs)) = false from rfl, show (nowW == ([110, 111, 119] : Bs)) = true from rfl, cd_f, cd_t]
    try simp (disch := omega) only [ws, Nat.zero_add]
    rw [l1_a P1.pb rfl]
    try simp only [cf_k]
    have gs : h1.mem.get (q 16) = some (rnB q ((St k)[0]'(by rw [St_len]; omega))) := P1.sit.mem 0 _ rfl
    refine K24 fun hbd2 => ?_
    unfold F24
    try simp (disch := omega) only [ws, Nat.zero_add]
    rw [l1_a (l := (CF ++ ([V.i .i64 k, V.i .u32 k, V.p 17 0, V.p 18 0, V.p 19 0, V.p 20 0, V.p 21 0, V.p 22 0, V.p 23 0, V.p 24 0, V.ns] : List V)).map (rn q)) (x := .i .i64 k) (ty := 74) (w := true) gs rfl]
    have G1 : Gl h1 G10 := G.keep fun r hr => by
      rw [P1.but.2.1 r (Nat.lt_of_lt_of_le hr P.low) (by simp)]
    refine fmt_ok (by simpa [kL] using hkl) (Nat.le_trans P.low P1.but.1) G1 fun h2 hb2 f2 => ?_
    have := dg_le k
    rw [ad_s (by simp; omega)]
    intro _
    exact c h2 hb2 (P1.keep f2 (by simp)) (Nat.le_trans f1.1 f2.1) fun r hr hrp hrq => by
      rw [f2.2.1 r (Nat.lt_of_lt_of_le hr f1.1) (by simp), f1.2.1 r hr (by simp)]

/- A renaming of a renaming. -/
mutual
theorem rn_comp (j q : Nat → Nat) : ∀ v : V, rn j (rn q v) = rn (fun r => j (q r)) v
  | .p _ _ => rfl
  | .sl _ _ _ _ _ => rfl
  | .se _ _ _ => rfl
  | .ze _ => rfl
  | .zs _ _ _ => rfl
  | .m _ => rfl
  | .f _ cs => by simp only [rn, rns_comp j q cs]
  | .ic _ v => by simp only [rn, rn_comp j q v]
  | .a l => by simp only [rn, rns_comp j q l]
  | .t l => by simp only [rn, rns_comp j q l]
  | .b _ => rfl
  | .i _ _ => rfl
  | .s _ => rfl
  | .np => rfl
  | .ns => rfl
  | .nm => rfl
  | .nf => rfl
  | .ni => rfl
theorem rns_comp (j q : Nat → Nat) : ∀ l : List V, rns j (rns q l) = rns (fun r => j (q r)) l
  | [] => rfl
  | v :: l => by simp only [rns, rn_comp j q v, rns_comp j q l]
end
theorem rnB_comp (j q : Nat → Nat) (b : B) : rnB j (rnB q b) = rnB (fun r => j (q r)) b := by
  cases b with
  | c l t o => simp only [rnB, List.map_map]; congr 1; exact List.map_congr_left fun v _ => rn_comp j q v
  | mp es c =>
    simp only [rnB, rnE, List.map_map]
    congr 1
    exact List.map_congr_left fun e _ => by simp only [Function.comp, rn_comp]
  | it s p => rfl

/-- The gateway, made. -/
theorem new_ok {h : H} (h16 : 16 ≤ h.next) {K : V → H → Prop}
    (c : ∀ h' q, Bd h' → But h h' none → Sit h' q (St 0) → (∀ i, i < 13 → h.next ≤ q (16 + i)) → K (.t [.p (q 16) 0, .i .i64 0]) h') : Ok Tryz.prog 98 8 [.a CF] h K := by
  have hB := newR
  unfold newB_ at hB
  have := ok_stepR hB (Sit.nil h h16) (Gl.nil h) (K := K) fun h' hbd A' hnx hex hkeep => ?_
  · exact this
  have hj : ∀ r, 16 ≤ r → jN (fun r => r) (16 + ([] : List B).length) h.next r = h.next + (r - 16) := fun r hr => by
    unfold jN
    rw [if_neg (by simpa using hr)]
    rfl
  have hr13 : ∀ i, i < 13 → 16 ≤ rho (16 + i) ∧ rho (16 + i) < 188 := by decide
  have hrin : ∀ i, i < 13 → ∀ k, k < 13 → rho (16 + i) = rho (16 + k) → i = k := by decide
  have q16 : ∀ i, i < 13 → jN (fun r => r) (16 + ([] : List B).length) h.next (rho (16 + i)) = h.next + (rho (16 + i) - 16) := fun i hi => hj _ (hr13 i hi).1
  have e : rn (jN (fun r => r) (16 + ([] : List B).length) h.next) (.t [.p 92 0, .i .i64 0]) = .t [.p (jN (fun r => r) (16 + ([] : List B).length) h.next (rho 16)) 0, .i .i64 0] := rfl
  rw [e]
  refine c h' (fun r => jN (fun r => r) (16 + ([] : List B).length) h.next (rho r)) hbd ⟨by omega, fun r hr _ => hkeep r hr (fun i hi => by simp at hi), fun _ => hbd⟩ ⟨fun r hr => ?_, fun a b ha hb hab => ?_, fun r hr => ?_, by omega, fun i b hb => ?_⟩ fun i hi => ?_
  · have : rho r = r := if_pos hr
    show jN _ _ _ (rho r) = r
    rw [this, jN_lt (by simpa using hr)]
  · rw [St_len] at ha hb
    have lo : ∀ a, a < 16 → jN (fun r => r) (16 + ([] : List B).length) h.next (rho a) = a := fun a ha => by
      have : rho a = a := if_pos ha
      rw [this, jN_lt (by simpa using ha)]
    by_cases h1 : a < 16
    · by_cases h2 : b < 16
      · rw [lo a h1, lo b h2] at hab; exact hab
      · have := q16 (b - 16) (by omega)
        rw [show 16 + (b - 16) = b by omega] at this
        rw [lo a h1, this] at hab
        omega
    · have ea := q16 (a - 16) (by omega)
      rw [show 16 + (a - 16) = a by omega] at ea
      by_cases h2 : b < 16
      · rw [ea, lo b h2] at hab
        omega
      · have eb := q16 (b - 16) (by omega)
        rw [show 16 + (b - 16) = b by omega] at eb
        rw [ea, eb] at hab
        have a1 := (hr13 (a - 16) (by omega)).1
        have b1 := (hr13 (b - 16) (by omega)).1
        rw [show 16 + (a - 16) = a by omega] at a1
        rw [show 16 + (b - 16) = b by omega] at b1
        have := hrin (a - 16) (by omega) (b - 16) (by omega) (by rw [show 16 + (a - 16) = a by omega, show 16 + (b - 16) = b by omega]; omega)
        omega
  · rw [St_len] at hr
    by_cases h1 : r < 16
    · have : rho r = r := if_pos h1
      show jN _ _ _ (rho r) < _
      rw [this, jN_lt (by simpa using h1)]; omega
    · have := q16 (r - 16) (by omega)
      rw [show 16 + (r - 16) = r by omega] at this
      have h2 := (hr13 (r - 16) (by omega)).2
      rw [show 16 + (r - 16) = r by omega] at h2
      show jN _ _ _ (rho r) < _
      rw [this]; omega
  · have hi : i < 13 := by have := (List.getElem?_eq_some_iff.1 hb).1; rwa [St_len] at this
    have hm : (rho (16 + i), rnB rho b) ∈ exN := by
      have key : ∀ i, i < 13 → exN[i]? = ((St 0)[i]?).map fun b => (rho (16 + i), rnB rho b) := by
        intro i hi
        match i, hi with
        | 0, _ => rfl
        | 1, _ => rfl
        | 2, _ => rfl
        | 3, _ => rfl
        | 4, _ => rfl
        | 5, _ => rfl
        | 6, _ => rfl
        | 7, _ => rfl
        | 8, _ => rfl
        | 9, _ => rfl
        | 10, _ => rfl
        | 11, _ => rfl
        | 12, _ => rfl
      have := key i hi
      rw [hb] at this
      exact List.mem_of_getElem? this
    have := hex _ _ hm
    rw [rnB_comp] at this
    exact this
  · show h.next ≤ jN _ _ _ (rho (16 + i))
    rw [q16 i hi]; omega

set_option maxHeartbeats 8000000 in
/-- A script of such lines, run. -/
theorem run_ok {L : List Ln} (h0 : L ≠ []) (hL : ∀ l ∈ L, ∀ m, l = some m → m ≤ 300) (hn : L.length ≤ 5) (he : ∀ (A B : List Ln), L = A ++ B → endL 0 A ≤ 300) {h : H} (h16 : 16 ≤ h.next) (G : Gl h G10) {K : V → H → Prop}
    (c : ∀ h', Bd h' → But h h' none → K (.t [.s (outL 0 L), .i .i64 0]) h') : Ok Tryz.prog 99 5 [.a CF, .s (joinB 10 (L.map rowL))] h K := by
  refine Ok.bd (K5 fun hbd => ?_)
  unfold F5
  refine bx_a (cs := CF) rfl fun r1 h1 g1 f1 l1 l1' => ?_
  rw [ln_w g1 (show CF.length = 40 from rfl)]
  simp only [cf_k]
  refine new_ok (Nat.le_trans h16 f1.1) fun h2 q hb2 f2 A2 hq2 => ?_
  simp only [ex_t, List.getElem?_cons_zero, List.getElem?_cons_succ, oP_some]
  try simp (disch := omega) only [ws, dec_t, Bool.not_true]
  try simp only [decide_true, Bool.not_true, cd_f]
  unfold F5_13
  simp only [cf_k]
  refine parse_ok h0 hL hn (Nat.le_trans h16 (Nat.le_trans f1.1 f2.1)) fun h3 v hb3 f3 hv3 hq3 => ?_
  simp only [ex_t, List.getElem?_cons_zero, List.getElem?_cons_succ, oP_some]
  try simp (disch := omega) only [ws, dec_t, Bool.not_true]
  unfold F5_23
  try simp only [decide_true, Bool.not_true, cd_f]
  refine bl_a (v := .a [.p (q 16) 0, .i .u32 0]) rfl ?_
  refine bx_a (cs := [.p (q 16) 0, .i .u32 0]) rfl fun p h4 g4 f4 l4 l4' => ?_
  refine al_a tt52 fun rb h5 g5 f5 l5 l5' => ?_
  have hvl : ∀ z, vblk v = some z → z < h3.next := hv3.lt hb3
  have hv5 : VecE h5 v 54 3 encL L := (hv3.keep hvl f4 (.inr rfl)).keep (fun z hz => Nat.lt_of_lt_of_le (hvl z hz) f4.1) f5 (.inr rfl)
  rw [vece_len tt42 rfl hv5]
  have qlt : ∀ i, i < 13 → q (16 + i) < h2.next := fun i hi => A2.lt _ (by rw [St_len]; omega)
  have P5 : Pl h h5 q p 0 := by
    have A5 : Sit h5 q (St 0) := ((A2.keep f3.1 fun i hi => f3.2.1 _ (qlt i hi) (by simp)).keep f4.1 fun i hi => f4.2.1 _ (Nat.lt_of_lt_of_le (qlt i hi) f3.1) (by simp)).keep f5.1 fun i hi => f5.2.1 _ (Nat.lt_of_lt_of_le (qlt i hi) (Nat.le_trans f3.1 f4.1)) (by simp)
    refine ⟨A5, fun i hi => Nat.le_trans f1.1 (hq2 i hi), f5.get l4' (by simp) g4, Nat.le_trans f1.1 (Nat.le_trans f2.1 (Nat.le_trans f3.1 l4)), Nat.lt_of_lt_of_le l4' f5.1, fun i hi => ?_, h16, (((f1.trans f2).trans f3).trans f4).trans f5⟩
    have := qlt i hi
    have := f3.1
    omega
  have key : ∀ (fuel i : Nat) (done todo : List Ln) (h6 : H) (s : V) (bs : Bs) (k : Nat), L.length < fuel + i → L = done ++ todo → done.length = i → k = endL 0 done → Bd h6 → h5.next ≤ h6.next → Pl h h6 q p k → (∀ z, vblk v = some z → h6.mem.get z = h5.mem.get z) → Bld h6 52 5 rb s bs → (∀ z, vblk s = some z → h5.next ≤ z) → bs ++ outL k todo = outL 0 L → bs.length ≤ 300000 * i →
      F5_39 pw (mkX Tryz.prog) (Ok Tryz.prog 98) (fun v h' => Bd h' → K v h') fuel (.p p 0) (.p rb 0) v (.i .i64 L.length) (.i .i64 i) h6 := by
    intro fuel
    induction fuel with
    | zero =>
      intro i done todo h6 s bs k a1 a2 a3
      have := congrArg List.length a2
      rw [List.length_append] at this
      omega
    | succ fuel ih =>
      intro i done todo h6 s bs k a1 a2 a3 a4 hb hn6 P hvs b hs e1 e2
      have hlen := congrArg List.length a2
      rw [List.length_append] at hlen
      rw [S5_39]
      cases todo with
      | nil =>
        simp only [List.length_nil] at hlen
        try simp (disch := omega) only [ws, dec_f]
        unfold F5_31
        simp only [cf_k]
        refine str_ok (by omega) b (by omega) fun h7 f7 hb7 => ?_
        simp only [outL, List.append_nil] at e1
        rw [e1]
        refine c h7 hb7 (bn1 P.but f7 fun z hz => ?_)
        have := hs z hz
        have := P5.but.1
        omega
      | cons l todo =>
        simp only [List.length_cons] at hlen
        try simp (disch := omega) only [ws, dec_t]
        unfold F5_46
        have hv6 : VecE h6 v 54 3 encL L := vec_same hv5 hvs
        refine vece_at encL_len hv6 (i := i) rfl (by omega) fun zb a => ?_
        rw [a.all]
        have el : L[i]'(by omega) = l := by
          have : L[i]? = some l := by rw [a2, ← a3]; simp
          rw [List.getElem?_eq_getElem (by omega)] at this
          exact Option.some.inj this
        rw [el]
        refine al_a tt54 fun r7 h7 g7 f7 l7 l7' => ?_
        refine sn_w g7 rfl (encL_len l) rfl (by cases l <;> rfl) fun h8 g8 f8 => ?_
        rw [ln_w g8 (encL_len l)]
        simp only [cf_k]
        have h57 : h5.next ≤ r7 := Nat.le_trans hn6 l7
        have qh5 : ∀ i, i < 13 → q (16 + i) < h5.next := fun i hi => Nat.lt_of_lt_of_le (qlt i hi) (Nat.le_trans f3.1 (Nat.le_trans f4.1 f5.1))
        have ph5 : p < h5.next := P5.pl
        have P8 : Pl h h8 q p k := (P.keep f7 (by simp)).keep f8 fun z hz => by
          cases hz
          refine ⟨Nat.le_trans P5.but.1 h57, by omega, fun i hi e => ?_⟩
          have := qh5 i hi
          omega
        have ek : kL k l ≤ 300 := by
          have := he (done ++ [l]) todo (by rw [a2]; simp)
          have e3 : ∀ (A : List Ln) (k0 : Nat), endL k0 (A ++ [l]) = kL (endL k0 A) l := by
            intro A
            induction A with
            | nil => intro k0; rfl
            | cons x A ihA => intro k0; exact ihA _
          rw [e3, ← a4] at this
          exact this
        refine play_ok ek P8 G fun h9 hb9 P9 hn9 hk9 => ?_
        have h69 : ∀ z, z < h6.next → z ≠ p → (∀ i, i < 13 → q (16 + i) ≠ z) → h9.mem.get z = h6.mem.get z := fun z hz hzp hzq => by
          rw [hk9 z (Nat.lt_of_lt_of_le hz (Nat.le_trans f7.1 f8.1)) hzp hzq, f8.2.1 z (Nat.lt_of_lt_of_le hz f7.1) (fun e => by cases e; omega), f7.2.1 z hz (by simp)]
        have hn69 : h6.next ≤ h9.next := Nat.le_trans f7.1 (Nat.le_trans f8.1 hn9)
        have rb4 : h4.next ≤ rb := l5
        have b9 : Bld h9 52 5 rb s bs := bld_same b hn69 (h69 rb b.rlt (by omega) fun i hi e => by have := qlt i hi; have := f3.1; have := f4.1; omega) fun z hz => h69 z (b.lt z hz) (fun e => by have := hs z hz; omega) fun i hi e => by have := hs z hz; have := qh5 i hi; omega
        have tlen : (tL k l).length ≤ 250000 := by
          cases l with
          | some m =>
            have := fru_len k m
            have := hL (some m) (by rw [a2]; simp) m rfl
            simp only [tL]; omega
          | none =>
            have := dg_le k
            simp only [tL, List.length_append, List.length_cons, List.length_nil]; omega
        refine wr_ok (by omega) b9 (by omega) fun h10 s10 b10 f10 hs10 => ?_
        unfold F5_52
        try simp (disch := omega) only [ws]
        rw [show ((i : Int) + 1) = ((i + 1 : Nat) : Int) by omega]
        have P10 : Pl h h10 q p (kL k l) := by
          refine ⟨P9.sit.keep f10.1 fun i hi => f10.2.1 _ (P9.sit.lt _ (by rw [St_len] at hi ⊢; omega)) ?_ ?_, P9.new, f10.get P9.pl (by omega) (fun e => by have := hs p e.symm; omega) P9.pb, P9.pn, Nat.lt_of_lt_of_le P9.pl f10.1, P9.ne, P9.low, bn2 P9.but f10 (by have := P5.but.1; have := f5.1; have := (((f1.trans f2).trans f3).trans f4).1; omega) fun z hz => by have := hs z hz; have := P5.but.1; omega⟩
          · rw [St_len] at hi; have := qlt i hi; have := f3.1; have := f4.1; omega
          · rw [St_len] at hi; intro e; have := hs _ e.symm; have := qh5 i hi; omega
        refine ih (i + 1) (done ++ [l]) todo h10 s10 (bs ++ tL k l) (kL k l) (by omega) (by rw [a2]; simp) (by simp [a3]) ?_ (f10.2.2 hb9) (Nat.le_trans hn6 (Nat.le_trans hn69 f10.1)) P10 (fun z hz => ?_) b10 (fun z hz => ?_) (by rw [← e1, outL, List.append_assoc]) (by rw [List.length_append]; omega)
        · rw [a4]
          have e3 : ∀ (A : List Ln) (k0 : Nat), endL k0 (A ++ [l]) = kL (endL k0 A) l := by
            intro A
            induction A with
            | nil => intro k0; rfl
            | cons x A ihA => intro k0; exact ihA _
          exact (e3 done 0).symm
        · have z3 := hvl z hz
          have z2 := hq3 z hz
          have z5 : z < h6.next := by have := f4.1; have := f5.1; omega
          rw [f10.2.1 z (Nat.lt_of_lt_of_le z5 hn69) (by have := f4.1; omega) (fun e => by have := hs z e.symm; have := f4.1; have := f5.1; omega), h69 z z5 (by omega) fun i hi e => by have := qlt i hi; omega]
          exact hvs z hz
        · rcases hs10 with e | e
          · exact hs z (e ▸ hz)
          · exact Nat.le_trans hn6 (Nat.le_trans hn69 (e z hz))
  exact key 100000 0 [] L h5 .ns [] 0 (by omega) rfl rfl rfl (f5.2.2 (f4.2.2 hb3)) (Nat.le_refl _) P5 (fun _ _ => rfl) ⟨⟨.np, g5, .inl rfl⟩, ⟨rfl, .inl ⟨rfl, rfl⟩⟩, by simp [vblk], by simp [vblk], l5', .inl rfl⟩ (by simp [vblk]) rfl (by simp)
end Go.Proofs.YtmcknijenobdaaaGreatDoor.Wb
