/- GateStrangers: a frame that nobody has a use for is not answered. -/
import Derived.Test.YtcebbmappnbegaaGreatDoorGs3
import Derived.Test.YtcebbmappnbegaaGreatDoorM5
set_option linter.unusedSimpArgs false
set_option linter.unusedVariables false
set_option linter.unusedSectionVars false
set_option linter.unnecessarySimpa false
set_option maxRecDepth 100000
namespace Go.Am
section
variable {x : X} {t el : TypeId} {i j : TI} {h : H} {κh : V → H → Prop}
theorem ms_a (ht : x.tt.get t = some i) (hk : i.k = .sl el) (hj : x.tt.get el = some j) {n : Nat} {k k' : IntKind} (hb : n * j.by_ ≤ 1099511627776) (hn : n ≤ 1099511627776)
    (K : ∀ r h', h'.mem.get r = some (.c (repl n j.zero) el true) → But h h' none → h.next ≤ r → r < h'.next → κh (.sl r 0 n n false) h') : pw.ms x t (.i k (n : Int)) (.i k' (n : Int)) h κh := by
  show (0 : Int) ≤ n ∧ (n : Int) ≤ n ∧ oP (x.tt.get t) _
  refine ⟨by omega, Int.le_refl _, ?_⟩
  rw [ht]
  simp only [oP, hk]
  rw [hj]
  simp only [Int.toNat_natCast]
  exact ⟨hb, hn, K h.next _ get_same (But.new _ _ _) (Nat.le_refl _) (Nat.lt_succ_self _)⟩
theorem bl_arr {ps l : List (Nat × V)} {cs : List V} {n : Nat} (ht : x.tt.get t = some i) (hk : i.k = .arr n el) (hj : x.tt.get el = some j) (hp : placesArr j.sz ps = some l) (hf : fillA i.zero l = some cs) : blW x t ps = some (.a cs) := by
  simp only [blW, ti_some _ ht, hk, ti_some _ hj, hp, hf]
end
/-- The numbers behind N are moved. -/
def jS (N G r : Nat) : Nat := if r < N then r else G + (r - N)
/-- A run from an empty memory, anywhere behind. -/
theorem ok_known {P : Program} {n : Nat} {f : FuncId} {v : V} {h' : H} {N : Nat} (e : sem (mkX P) 100000 n f [] ⟨N, .l⟩ = some (v, h')) {g : H} (h16 : 16 ≤ N) (hN : N ≤ g.next) {K : V → H → Prop}
    (k : ∀ g', Bd g' → But g g' none → (∀ r b, h'.mem.get r = some b → g'.mem.get (jS N g.next r) = some (rnB (jS N g.next) b)) → K (rn (jS N g.next) v) g') : Ok P n f [] g K := by
  have J : Jn (jS N g.next) := by
    refine ⟨fun {a b} hab => ?_, fun {r} hr => if_pos (by omega)⟩
    unfold jS at hab
    split at hab <;> split at hab <;> omega
  have M : MRn (jS N g.next) ⟨N, .l⟩ g := ⟨fun k => by
    show jS N g.next (N + k) = _
    unfold jS
    rw [if_neg (by omega)]
    omega, fun r b hb => by simp [Go.Am.T.get] at hb⟩
  intro hbd
  obtain ⟨g', e2, F⟩ := sem_rn J (zrn J P) 100000 n f [] _ _ _ g e M
  have hg := gd_sem (P := P) 100000 n f _ g _ _ e2
  exact ⟨_, g', e2, hg.2 hbd, hg.1, k g' (hg.2 hbd) ⟨hg.1, fun q hq _ => F.keep q hq fun r _ => by simp [Go.Am.T.get], hg.2⟩ F.m.mem⟩
end Go.Am
namespace Go.Proofs.YtcebbmappnbegaaGreatDoor.Wb
open Go Go.Am

def two (t : Int) : List UInt8 := [UInt8.ofNat (t / 256).toNat, UInt8.ofNat (t % 256).toNat]
theorem two_u8s {t : Int} (h : 0 ≤ t ∧ t ≤ 65535) : ([.i .u8 (t / 256), .i .u8 (t % 256)] : List V) = u8s (two t) := by
  have e1 : ((UInt8.ofNat (t / 256).toNat).toNat : Int) = t / 256 := by rw [UInt8.toNat_ofNat']; omega
  have e2 : ((UInt8.ofNat (t % 256).toNat).toNat : Int) = t % 256 := by rw [UInt8.toNat_ofNat']; omega
  simp only [u8s, two, List.map_cons, List.map_nil, e1, e2]
theorem ru16_ok {n : Nat} (hn : 1 ≤ n) {h : H} {v : V} {bs : List UInt8} {t : Int} (hb : BytesAt h v bs) (hl : bs.length ≤ 100000) (ht : 0 ≤ t ∧ t ≤ 65535) {K : V → H → Prop}
    (c : ∀ h' v' q, Bd h' → But h h' none → Vec h' v' 5 1 (u8s (bs ++ two t)) (bs ++ two t).length → vblk v' = some q → h.next ≤ q → q < h'.next → K v' h') : Ok Tryz.prog n 81 [v, .i .i64 t] h K := by
  obtain ⟨n, rfl⟩ := Nat.exists_eq_add_of_le' hn
  refine Ok.bd (K81 fun hbd => ?_)
  unfold F81
  have T := txx
  generalize mkX Tryz.prog = x at T ⊢
  refine cpy T (.inl hb) (hb.lt hbd) (by omega) fun v1 q h1 hv hq hq1 hq2 f1 => ?_
  rw [sr_8, ci_u8 (by omega), ci_u8m]
  refine bs_a T.t54 rfl T.t5 (by decide) (l := [(0, .i .u8 (t / 256)), (1, .i .u8 (t % 256))]) rfl (cs := [.i .u8 (t / 256), .i .u8 (t % 256)]) rfl fun r2 h2 g2 f2 l2 l2' => ?_
  rw [two_u8s ht] at g2
  have by2 : BytesAt h2 (.sl r2 0 2 2 false) (two t) := ⟨rfl, Nat.le_refl _, _, _, _, g2, by rw [u8s_len]; exact Nat.le_refl _, fun i hi => by rw [Nat.zero_add]; exact u8s_get hi⟩
  have hv2 := hv.keep (fun z hz => by rw [hq] at hz; cases hz; exact hq2) f2 (.inr rfl)
  refine ap_by T hv2 (.inl by2) (by show _ + 2 ≤ _; omega) fun v3 h3 hv3 f3 hs3 => ?_
  have f13 : But h h3 none := bn1 (f1.trans f2) f3 fun z hz => by rw [hq] at hz; cases hz; exact hq1
  intro hb3
  rcases hs3 with e | ⟨e, e2⟩
  · exact c h3 v3 q hb3 f13 hv3 (e.trans hq) hq1 (Nat.lt_of_lt_of_le hq2 (Nat.le_trans f2.1 f3.1))
  · exact c h3 v3 _ hb3 f13 hv3 e (Nat.le_trans f1.1 f2.1) e2
theorem copied_ok {n : Nat} (hn : 1 ≤ n) {h : H} {v : V} {bs : List UInt8} (hb : BytesAt h v bs) (hl : bs.length ≤ 100000) {K : V → H → Prop}
    (c : ∀ h' v' q, Bd h' → But h h' none → Vec h' v' 5 1 (u8s bs) bs.length → vblk v' = some q → h.next ≤ q → q < h'.next → K v' h') : Ok Tryz.prog n 76 [v] h K := by
  obtain ⟨n, rfl⟩ := Nat.exists_eq_add_of_le' hn
  refine Ok.bd (K76 fun hbd => ?_)
  unfold F76
  have T := txx
  generalize mkX Tryz.prog = x at T ⊢
  exact cpy T (.inl hb) (hb.lt hbd) (by omega) fun v1 q h1 hv hq hq1 hq2 f1 hb1 => c h1 v1 q hb1 f1 hv hq hq1 hq2

/-- A frame is put. -/
theorem put_ok {n : Nat} (hn : 2 ≤ n) {h : H} {ts fs body : List UInt8} {t : Int} {bv : V} (t6 : ts.length = 6) (f6 : fs.length = 6) (ht : 0 ≤ t ∧ t ≤ 65535) (hb : BytesAt h bv body) (hl : body.length ≤ 1400) {K : V → H → Prop}
    (c : ∀ h' v, Bd h' → But h h' none → BytesAt h' v (ts ++ fs ++ two t ++ body) → K (.t [v, .i .i64 0]) h') : Ok Tryz.prog n 34 [.a (u8s ts ++ u8s fs ++ [.i .i64 t, bv])] h K := by
  obtain ⟨n, rfl⟩ := Nat.exists_eq_add_of_le' hn
  obtain ⟨t0, t1, t2, t3, t4, t5, rfl⟩ := list6 t6
  obtain ⟨s0, s1, s2, s3, s4, s5, rfl⟩ := list6 f6
  refine Ok.bd (K34 fun hbd => ?_)
  unfold F34
  have T := txx
  generalize mkX Tryz.prog = x at T ⊢
  refine bx_a (cs := u8s [t0, t1, t2, t3, t4, t5] ++ u8s [s0, s1, s2, s3, s4, s5] ++ [.i .i64 t, bv]) rfl fun r h1 g1 f1 l1 l1' => ?_
  have bl := hb.lt hbd
  have hb1 := hb.keep bl f1 (.inr rfl)
  simp only [fa_p, Nat.zero_add]
  rw [l1_a g1 (x := bv) rfl, bytes_len T.t54 rfl hb1]
  simp (disch := omega) only [gt_i, dec_f, cd_f]
  unfold F34_5
  simp only [fa_p, Nat.zero_add]
  rw [l1_a g1 (x := .i .i64 t) rfl]
  simp (disch := omega) only [lt_i, dec_f, g0_f]
  rw [l1_a g1 (x := .i .i64 t) rfl]
  simp (disch := omega) only [gt_i, dec_f, g0_f, pk_f, cd_f]
  unfold F34_7
  simp only [fa_p, Nat.zero_add, sc_6 T, cf_k]
  have by1 : BytesAt h1 (.sl r 0 6 6 false) [t0, t1, t2, t3, t4, t5] := ⟨rfl, Nat.le_refl _, _, _, _, g1, by simp [u8s], fun i hi => by
    rw [Nat.zero_add, ← u8s_get hi, List.append_assoc, List.getElem?_append_left (by rw [u8s_len]; exact hi)]⟩
  refine copied_ok (by omega) by1 (by simp) fun h2 v2 q2 hb2 f2 hv2 hq2 hq2' hq2'' => ?_
  have g2 := f2.get l1' (by simp) g1
  have by2 : BytesAt h2 (.sl r 6 6 6 false) [s0, s1, s2, s3, s4, s5] := ⟨rfl, Nat.le_refl _, _, _, _, g2, by simp [u8s], fun i hi => by
    rw [← u8s_get hi, List.append_assoc, List.getElem?_append_right (by rw [u8s_len]; simp), u8s_len, show 6 + i - [t0, t1, t2, t3, t4, t5].length = i by simp, List.getElem?_append_left (by rw [u8s_len]; exact hi)]⟩
  refine ap_by T hv2 (.inl by2) (by simp) fun v3 h3 hv3 f3 hs3 => ?_
  have f23 : But h1 h3 none := bn1 f2 f3 fun z hz => by rw [hq2] at hz; cases hz; exact hq2'
  have g3 := f23.get l1' (by simp) g1
  have own3 : ∀ z, vblk v3 = some z → h1.next ≤ z ∧ z < h3.next := fun z hz => by
    rcases hs3 with e | ⟨e, e2⟩
    · rw [e, hq2] at hz; cases hz; exact ⟨hq2', Nat.lt_of_lt_of_le hq2'' f3.1⟩
    · rw [e] at hz; cases hz; exact ⟨f2.1, e2⟩
  rw [l1_a g3 (x := .i .i64 t) rfl]
  refine ru16_ok (by omega) (Vec.bytes hv3) (by simp) ht fun h4 v4 q4 hb4 f4 hv4 hq4 hq4' hq4'' => ?_
  have f14 : But h1 h4 none := f23.trans f4
  have g4 := f14.get l1' (by simp) g1
  rw [l1_a g4 (x := bv) rfl]
  have hb4' : BytesAt h4 bv body := hb1.keep (fun z hz => Nat.lt_of_lt_of_le (bl z hz) f1.1) f14 (.inr rfl)
  refine ap_by T hv4 (.inl hb4') (by simp [two]; omega) fun v5 h5 hv5 f5 hs5 => ?_
  have f15 : But h1 h5 none := bn1 f14 f5 fun z hz => by rw [hq4] at hz; cases hz; exact Nat.le_trans f23.1 hq4'
  have g5 := f15.get l1' (by simp) g1
  have hn3 : r < h3.next := Nat.lt_of_lt_of_le l1' f23.1
  have hn4 : r < h4.next := Nat.lt_of_lt_of_le l1' f14.1
  have hn5 : r < h5.next := Nat.lt_of_lt_of_le l1' f15.1
  refine ck_ok (fun rr hr => ?_) ?_
  · simp only [List.mem_cons, List.not_mem_nil, or_false] at hr
    rcases hr with rfl | rfl
    · refine ⟨againW_l T.t54 rfl rfl hn3 g3 rfl, fun p hp => ?_⟩
      simp only [List.mem_cons, List.not_mem_nil, or_false] at hp
      rcases hp with rfl | rfl
      · exact againW_l T.t54 rfl rfl hn5 g5 rfl
      · exact againW_l T.t54 rfl rfl hn4 g4 rfl
    · refine ⟨againW_l T.t3 rfl rfl hn3 g3 rfl, fun p hp => ?_⟩
      simp only [List.mem_cons, List.not_mem_nil, or_false] at hp
      rcases hp with rfl | rfl
      · exact againW_l T.t3 rfl rfl hn5 g5 rfl
      · exact againW_l T.t3 rfl rfl hn4 g4 rfl
  · exact fun hb5 => c h5 v5 hb5 (f1.trans f15) (Vec.bytes hv5)

def farM : List UInt8 := [2, 2, 0, 0, 0, 1]
theorem far_ok {n : Nat} (hn : 1 ≤ n) {h : H} {K : V → H → Prop} (c : ∀ h', Bd h' → But h h' none → K (.a (u8s farM)) h') : Ok Tryz.prog n 38 [] h K := by
  obtain ⟨n, rfl⟩ := Nat.exists_eq_add_of_le' hn
  refine Ok.bd (K38 fun hbd => ?_)
  unfold F38
  have T := txx
  generalize mkX Tryz.prog = x at T ⊢
  refine al_a T.t31 fun r h1 g1 f1 l1 l1' => ?_
  refine bl_a (v := .a (u8s farM)) (bl_arr T.t31 rfl T.t5 rfl rfl) ?_
  refine sn_w g1 (cs := u8s farM) rfl rfl rfl rfl fun h2 g2 f2 => ?_
  rw [ln_w (sz := 6) g2 rfl]
  exact fun hb => c h2 hb (bn1 f1 f2 fun z hz => by cases hz; exact l1)

/-- What the law does behind 'mine'. -/
def Tl9 (x : X) (K : V → H → Prop) (v23 v24 v25 v26 v27 v28 v63 : V) (h62 : H) : Prop := pw.ln 6 v27 h62 fun v65 => pw.cf (keepC (Ok Tryz.prog 99)) 38 [] h62 fun v66 h66 => pw.bl x 102 [(0, v65), (1, v66), (2, v24), (3, v25)] fun v69 => pw.cf (Ok Tryz.prog 99) 34 [v69] h66 fun v70 h70 => pw.ex 0 v70 fun v72 => pw.ex 1 v70 fun v73 => pw.nt v63 fun v112 => pw.g0 v112 (fun κ => κ v24 h70) h70 fun v115 h115 => pw.g0 v112 (fun κ => pw.ne x 3 v115 (.i .i64 2048) fun v116 => κ v116 h115) h115 fun v117 h117 => pw.g0 v112 (fun κ => κ v117 h117) h117 fun v119 h119 => pw.g1 v119 (fun κ => κ v24 h119) h119 fun v121 h121 => pw.g1 v119 (fun κ => pw.ne x 3 v121 (.i .i64 2054) fun v122 => κ v122 h121) h121 fun v123 h123 => pw.g0 v112 (fun κ => pw.pk v119 v123 (.b false) fun v124 => κ v124 h123) h123 fun v125 h125 => pw.pk v112 (.b true) v125 fun v126 => pw.g1 v126 (fun κ => κ v28 h125) h125 fun v129 h129 => pw.g1 v126 (fun κ => pw.nl v129 fun v130 => κ v130 h129) h129 fun v131 h131 => pw.g1 v126 (fun κ => pw.fa 0 v131 fun v132 => κ v132 h131) h131 fun v133 h133 => pw.g1 v126 (fun κ => pw.l1 v133 h133 fun v134 => κ v134 h133) h133 fun v135 h135 => pw.g1 v126 (fun κ => κ v23 h135) h135 fun v137 h137 => pw.g1 v126 (fun κ => κ v72 h137) h137 fun v139 h139 => pw.g1 v126 (fun κ => pw.cf (Ok Tryz.prog 99) 35 [v135, v137, v139] h139 fun v140 h140 => κ v140 h140) h139 fun v141 h141 => pw.g1 v126 (fun κ => pw.ls x 51 v141 fun v142 => κ v142 h141) h141 fun v143 h143 => pw.g1 v126 (fun κ => pw.ne x 3 v143 (.i .i64 0) fun v144 => κ v144 h143) h143 fun v145 h145 => pw.pk v126 v145 (.b false) fun v146 => pw.cd v146 (K (.b false) h145) (F9_76 pw x (Ok Tryz.prog 99) K v23 v26 v28 h145)

/-- A gateway that has nothing to say. -/
structure Gw (h : H) (W G : Nat) (gl : List V) : Prop where
  w : ∃ x ty, h.mem.get W = some (.c [.p G 0, x] ty true)
  g : ∃ ty, h.mem.get G = some (.c gl ty true)
  len : gl.length = 51
  m1 : (gl.drop 9).take 6 = u8s lanM
  m2 : (gl.drop 15).take 6 = u8s wanM
  o : gl[50]? = some .ns
  wl : W < h.next
  gn : G < h.next
theorem Gw.keep {h h' : H} {W G : Nat} {gl : List V} (a : Gw h W G gl) (f : But h h' none) : Gw h' W G gl := by
  obtain ⟨y0, ty, h1⟩ := a.w
  obtain ⟨ty2, h2⟩ := a.g
  exact ⟨⟨y0, ty, f.get a.wl (by simp) h1⟩, ⟨ty2, f.get a.gn (by simp) h2⟩, a.len, a.m1, a.m2, a.o, Nat.lt_of_lt_of_le a.wl f.1, Nat.lt_of_lt_of_le a.gn f.1⟩

theorem ls_ns {x : X} (T : Tx x) {κ : V → Prop} : pw.ls x 51 .ns κ = κ (.i .i64 0) := by
  simp only [pw, ti_some _ T.t51, lenP, oP]
theorem zeros_u8s : ∀ n, repl n [V.i .u8 0] = u8s (List.replicate n 0)
  | 0 => rfl
  | n + 1 => by rw [repl, zeros_u8s n, List.replicate_succ]; rfl
/-- So many noughts. -/
theorem end_ok {x : X} (T : Tx x) {h : H} {W G : Nat} {gl : List V} (a : Gw h W G gl) {side m : Int} (hm : 0 ≤ m ∧ m ≤ 2000) {K : V → H → Prop} (c : ∀ h', K (.b true) h') : F9_76 pw x (Ok Tryz.prog 99) K (.i .i64 side) (.i .i64 m) (.p W 0) h := by
  unfold F9_76
  obtain ⟨n, rfl⟩ := Int.eq_ofNat_of_zero_le hm.1
  obtain ⟨y0, ty, hw⟩ := a.w
  obtain ⟨ty2, hg⟩ := a.g
  have run : ¬(14 ≤ n ∧ n ≤ 1514) → pw.nl (.p W 0) fun v91 => pw.fa 0 v91 fun v93 => pw.l1 v93 h fun v95 => pw.ms x 54 (.i .i64 (n : Int)) (.i .i64 (n : Int)) h fun v101 h101 => pw.cf (Ok Tryz.prog 99) 35 [v95, .i .i64 side, v101] h101 fun v103 h103 => pw.ls x 51 v103 fun v105 => pw.eq x 3 v105 (.i .i64 0) fun v107 => pw.pk (.b false) (.b true) v107 fun v109 => K v109 h103 := by
    intro hs
    simp only [nl_p, fa_p, Nat.zero_add]
    rw [l1_a hw rfl]
    refine ms_a T.t54 rfl T.t5 (by simp only; omega) (by omega) fun r h1 g1 f1 l1 l1' => ?_
    have hz : repl n [V.i .u8 0] = u8s (List.replicate n 0) := zeros_u8s n
    rw [hz] at g1
    simp only [cf_k]
    have hby : BytesAt h1 (.sl r 0 n n false) (List.replicate n 0) := ⟨by simp, Nat.le_refl _, _, _, _, g1, by simp [u8s_len], fun i hi => by rw [Nat.zero_add]; exact u8s_get hi⟩
    refine frame_ok (bs := List.replicate n 0) (by omega) (f1.get a.gn (by simp) hg) a.len a.m1 a.m2 a.o hby (by simp; omega) (.inl (by simpa using hs)) fun h2 hb2 f2 => ?_
    rw [ls_ns T]
    simp only [eq_i, decide_true, pk_f]
    exact c h2
  by_cases h1 : (14 : Int) ≤ n
  · by_cases h2 : (n : Int) ≤ 1514
    · simp only [ge_i, le_i, decide_eq_true h1, decide_eq_true h2, g1_t, pk_t, g0_t]
      exact c h
    · simp only [ge_i, le_i, decide_eq_true h1, decide_eq_false h2, g1_t, pk_t, g0_f]
      exact run (by omega)
  · simp only [ge_i, decide_eq_false h1, g1_f, pk_f, g0_f]
    exact run (by omega)

set_option maxHeartbeats 8000000 in
theorem tail_ok {x : X} (T : Tx x) {h : H} (hbd : Bd h) {W G r : Nat} {gl : List V} (a : Gw h W G gl) {ts body : List UInt8} {side t m : Int} {bv : V} {ty : TypeId} {w : Bool} (t6 : ts.length = 6) (hr : h.mem.get r = some (.c (u8s ts) ty w)) (hb : BytesAt h bv body) (hl : body.length ≤ 1400) (ht : 0 ≤ t ∧ t ≤ 65535) (hm : 0 ≤ m ∧ m ≤ 2000)
    {mine : Bool} (hmine : mine = false → (side ≠ 0 ∧ side ≠ 1) ∨ (ts == macS side || oddB ts) = false) {K : V → H → Prop} (c : ∀ h', K (.b true) h') : Tl9 x K (.i .i64 side) (.i .i64 t) bv (.i .i64 m) (.p r 0) (.p W 0) (.b mine) h := by
  unfold Tl9
  rw [ln_w hr (by rw [u8s_len, t6])]
  simp only [cf_k]
  show Ok Tryz.prog 99 38 [] h fun v h' => KeepH h h' ∧ _
  refine far_ok (by omega) fun h1 hb1 f1 => ?_
  refine ⟨fun q hq => f1.2.1 q hq (by simp), ?_⟩
  have bl := hb.lt hbd
  have hby1 := hb.keep bl f1 (.inr rfl)
  have eb : blW x 102 [(0, .a (u8s ts)), (1, .a (u8s farM)), (2, .i .i64 t), (3, bv)] = some (.a (u8s ts ++ u8s farM ++ [.i .i64 t, bv])) := by
    obtain ⟨t0, t1, t2, t3, t4, t5, rfl⟩ := list6 t6
    cases bv <;> first | exact bl_st T.t102 rfl rfl rfl | exact (show False from hb).elim
  refine bl_a eb ?_
  refine put_ok (by omega) t6 rfl ht hby1 hl fun h2 v hb2 f2 hv => ?_
  have a2 := (a.keep f1).keep f2
  simp only [ex_t, List.getElem?_cons_zero, List.getElem?_cons_succ, oP_some]
  have e6 : (ts ++ farM ++ two t ++ body).take 6 = ts := by
    rw [List.append_assoc, List.append_assoc, List.take_left' t6]
  have ety : tyN (ts ++ farM ++ two t ++ body) = t := by
    have e12 : (ts ++ farM ++ two t ++ body).drop 12 = two t ++ body := by
      rw [List.append_assoc (ts ++ farM), List.drop_left' (by rw [List.length_append, t6]; rfl)]
    unfold tyN
    rw [e12]
    have d0 : ((two t ++ body).getD 0 0) = UInt8.ofNat (t / 256).toNat := rfl
    have d1 : ((two t ++ body).getD 1 0) = UInt8.ofNat (t % 256).toNat := rfl
    rw [d0, d1, UInt8.toNat_ofNat', UInt8.toNat_ofNat']
    omega
  have elen : (ts ++ farM ++ two t ++ body).length ≤ 100000 := by
    simp only [List.length_append, t6]
    show 6 + 6 + 2 + _ ≤ _
    omega
  obtain ⟨y0, tyw, hw⟩ := a2.w
  obtain ⟨tyg, hg⟩ := a2.g
  have run : ((side ≠ 0 ∧ side ≠ 1) ∨ (ts == macS side || oddB ts) = false ∨ (t ≠ 2054 ∧ t ≠ 2048)) → pw.nl (.p W 0) fun v131 => pw.fa 0 v131 fun v133 => pw.l1 v133 h2 fun v135 => pw.cf (Ok Tryz.prog 99) 35 [v135, .i .i64 side, v] h2 fun v141 h141 => pw.ls x 51 v141 fun v143 => pw.ne x 3 v143 (.i .i64 0) fun v145 => pw.pk (.b true) v145 (.b false) fun v146 => pw.cd v146 (K (.b false) h141) (F9_76 pw x (Ok Tryz.prog 99) K (.i .i64 side) (.i .i64 m) (.p W 0) h141) := by
    intro hq
    simp only [nl_p, fa_p, Nat.zero_add]
    rw [l1_a hw rfl]
    simp only [cf_k]
    refine frame_ok (by omega) hg a2.len a2.m1 a2.m2 a2.o hv elen (.inr (by rw [e6, ety]; exact hq)) fun h3 hb3 f3 => ?_
    rw [ls_ns T]
    simp only [ne_i, decide_true, Bool.not_true, pk_t, cd_f]
    exact end_ok T (a2.keep f3) hm c
  cases mine with
  | false =>
    simp only [nt_b, Bool.not_false, g0_t, pk_t, g1_t]
    refine run ?_
    rcases hmine rfl with h | h
    · exact .inl h
    · exact .inr (.inl h)
  | true =>
    by_cases h1 : t = 2048
    · simp only [nt_b, Bool.not_true, g0_f, ne_i, decide_eq_true h1, g1_f, pk_f, cd_f]
      exact end_ok T a2 hm c
    · by_cases h3 : t = 2054
      · simp only [nt_b, Bool.not_true, Bool.not_false, g0_f, ne_i, decide_eq_false h1, decide_eq_true h3, g1_t, g1_f, pk_t, pk_f, cd_f]
        exact end_ok T a2 hm c
      · simp only [nt_b, Bool.not_true, Bool.not_false, g0_f, ne_i, decide_eq_false h1, decide_eq_false h3, g1_t, pk_t, pk_f]
        exact run (.inr (.inr ⟨h3, h1⟩))
end Go.Proofs.YtcebbmappnbegaaGreatDoor.Wb
