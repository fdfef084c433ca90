/- Sums over bytes, made at once: that they come to what the program's own loops come to. -/
import Derived.Test.YtcebbmappnbegaaGreatDoorM7
import Derived.Test.YtcebbmappnbegaaGreatDoorYtceU
import Derived.Test.YtcebbmappnbegaaGreatDoorBvT
set_option linter.unusedSimpArgs false
set_option linter.unusedVariables false
set_option linter.unusedSectionVars false
set_option linter.unnecessarySimpa false
set_option maxRecDepth 100000
namespace Go.Proofs.YtcebbmappnbegaaGreatDoor.Bodies
open Go.Am Go.Proofs.YtcebbmappnbegaaGreatDoor.Facts
theorem s77 (p : Pr) (x : X) (call : CT) (n : Nat) (v11 v12 v13 : V) (h : H) (s : Sy) : F77_10 p x call (n + 1) v11 v12 v13 h s = (p.ls x 54 v11 s fun v57 s57 => p.lt x 3 v13 v57 s57 fun v58 s58 => p.cd v58 (F77_14 p x call (F77_10 p x call n) v11 v12 v13 h s58) (F77_4 p x call v12 h s58)) := rfl
theorem s505 (p : Pr) (x : X) (call : CT) (n : Nat) (v28 v29 v30 : V) (h : H) (s : Sy) : F505_27 p x call (n + 1) v28 v29 v30 h s = (p.ad x 3 v30 (.i .i64 (.ofNat 1)) s fun v59 s59 => p.ls x 54 v29 s59 fun v61 s61 => p.lt x 3 v59 v61 s61 fun v62 s62 => p.cd v62 (F505_31 p x call (F505_27 p x call n) v28 v29 v30 h s62) (F505_4 p x call v28 v29 h s62)) := rfl
theorem add158 : AddOk Tryz.prog 158 := add_of K158 fun x call a b h s ha hb => by
  have h1 := land_le a
  have h2 := land_le b
  have h3 := land_le (Nat.land a 65535 + Nat.land b 65535)
  have h4 := shr_le (Nat.land a 65535 + Nat.land b 65535) (by omega)
  show F158 pr0 x call _ _ h s = _
  simp only [F158, pr_ad, pr_sb, pr_re, pr_an, pr_or, pr_eq, pr_lt, pr_sl, pr_sr, pr_ci, pr_ls, pr_is, pr_l1, pr_cf, pr_cd]
  rw [w_an (show a ≤ 9223372036854775807 by omega) (by decide), w_an (show b ≤ 9223372036854775807 by omega) (by decide), w_ad (show _ ≤ 9223372036854775807 by omega), w_an (show _ ≤ 9223372036854775807 by omega) (by decide), w_sr (by decide) (show _ ≤ 9223372036854775807 by omega) (show _ ≤ 9223372036854775807 by omega), w_ad (show _ ≤ 9223372036854775807 by omega)]
  rfl
theorem add554 : AddOk Tryz.prog 554 := add_of K554 fun x call a b h s ha hb => by
  have h1 := land_le a
  have h2 := land_le b
  have h3 := land_le (Nat.land a 65535 + Nat.land b 65535)
  have h4 := shr_le (Nat.land a 65535 + Nat.land b 65535) (by omega)
  show F554 pr0 x call _ _ h s = _
  simp only [F554, pr_ad, pr_sb, pr_re, pr_an, pr_or, pr_eq, pr_lt, pr_sl, pr_sr, pr_ci, pr_ls, pr_is, pr_l1, pr_cf, pr_cd]
  rw [w_an (show a ≤ 9223372036854775807 by omega) (by decide), w_an (show b ≤ 9223372036854775807 by omega) (by decide), w_ad (show _ ≤ 9223372036854775807 by omega), w_an (show _ ≤ 9223372036854775807 by omega) (by decide), w_sr (by decide) (show _ ≤ 9223372036854775807 by omega) (show _ ≤ 9223372036854775807 by omega), w_ad (show _ ≤ 9223372036854775807 by omega)]
  rfl
theorem cf_ad {f a b : Nat} {h : H} {s : Sy} {κ : V → H → Sy → R} (ha : a ≤ 4294967296) (hb : b ≤ 4294967296) : cfC (adT f) f [.i .i64 (.ofNat a), .i .i64 (.ofNat b)] h s κ = κ (.i .i64 (.ofNat (addN a b))) h s := by
  unfold cfC
  rw [adT_k ha hb]
  rfl
theorem cell_at {l cs : List V} {o n k : Nat} {v : V} {rest : List V} (hs : sub l o n = some cs) (hd : cs.drop k = v :: rest) : k < n ∧ l[o + k * 1]? = some v ∧ cs.drop (k + 1) = rest := by
  have hl := (sub_eq hs).2.2
  have hk : k < cs.length := by
    rcases Nat.lt_or_ge k cs.length with h | h
    · exact h
    · rw [List.drop_eq_nil_of_le h] at hd; cases hd
  rw [List.drop_eq_getElem_cons hk] at hd
  have h1 := (List.cons.inj hd).1
  refine ⟨by omega, ?_, (List.cons.inj hd).2⟩
  rw [Nat.mul_one, ← sub_get hs (by omega), List.getElem?_eq_getElem hk, h1]
theorem past {l cs : List V} {o n k : Nat} (hs : sub l o n = some cs) (hd : cs.drop k = []) : n ≤ k := by
  have hl := (sub_eq hs).2.2
  have := List.drop_eq_nil_iff.1 hd
  omega
theorem ble_f {a b : Nat} (h : b ≤ a) : Nat.ble (Nat.succ a) b = false := by
  cases e : Nat.ble (Nat.succ a) b with
  | false => rfl
  | true => have := Nat.le_of_ble_eq_true e; omega
theorem cd_t {A B : R} : cdC (.b true) A B = A := rfl
theorem cd_f {A B : R} : cdC (.b false) A B = B := rfl
theorem lp77 {x : X} {l : List V} {ty : TypeId} {w : Bool} {r o n c : Nat} {e : Bool} {h : H} {s : Sy} {z : Nat} {cs : List V} (hr : r < h.next) (hg : h.mem.get r = some (.c l ty w)) (hs : sub l o n = some cs) (hn : n ≤ 100000) (hz : z ≤ 65535) : ∀ (fuel k acc : Nat) (rest : List V), cs.drop k = rest → smF rest false 0 acc = some z → acc ≤ 65536 → k ≤ n + 1 → n + 2 < 2 * fuel + k →
    F77_10 pr0 x (adT 158) fuel (.sl r o n c e) (.i .i64 (.ofNat acc)) (.i .i64 (.ofNat k)) h s = .ret ((.i .i64 (.ofNat (65535 - z)), h), s) := by
  intro fuel
  induction fuel with
  | zero => intro k acc rest _ _ _ h1 h2; omega
  | succ fuel ih =>
    intro k acc rest hd hm ha hk hf
    rw [s77]
    simp only [pr_ad, pr_sb, pr_re, pr_an, pr_or, pr_eq, pr_lt, pr_sl, pr_sr, pr_ci, pr_ls, pr_is, pr_l1, pr_cf, pr_cd]
    rw [w_ls (by omega)]
    rw [w_lt (show k ≤ 9223372036854775807 by omega) (show n ≤ 9223372036854775807 by omega)]
    cases rest with
    | nil =>
      have := past hs hd
      rw [ble_f this]
      rw [cd_f]
      rw [smF_nil] at hm
      cases hm
      simp only [F77_14, F77_18, F77_32, F77_4, pr_ad, pr_sb, pr_re, pr_an, pr_or, pr_eq, pr_lt, pr_sl, pr_sr, pr_ci, pr_ls, pr_is, pr_l1, pr_cf, pr_cd]
      rw [w_sb (by omega) (by decide)]
    | cons v rest =>
      obtain ⟨h1, h2, h3⟩ := cell_at hs hd
      rw [smF_cons] at hm
      obtain ⟨a, rfl, ha1, hm⟩ := byO_some hm
      have sh := shl_le ha1
      rw [ble_t (show Nat.succ k ≤ n by omega)]
      rw [cd_t]
      simp only [F77_14, F77_18, F77_32, F77_4, pr_ad, pr_sb, pr_re, pr_an, pr_or, pr_eq, pr_lt, pr_sl, pr_sr, pr_ci, pr_ls, pr_is, pr_l1, pr_cf, pr_cd]
      rw [w_is h1 (by omega), w_l1 hr hg h2, w_ci (show a ≤ 9223372036854775807 by omega), w_sl (by decide) (show a ≤ 9223372036854775807 by omega) (show _ ≤ 9223372036854775807 by omega), w_ad (show k + 1 ≤ 9223372036854775807 by omega), w_ls (by omega), w_lt (show k + 1 ≤ 9223372036854775807 by omega) (show n ≤ 9223372036854775807 by omega)]
      cases rest with
      | nil =>
        rw [smF_nil1] at hm
        have h4 := past hs h3
        have h5 : k + 2 ≤ n + 1 := by omega
        rw [ble_f h4, cd_f, cf_ad (by omega) (by omega), w_ad (show k + 2 ≤ 9223372036854775807 by omega)]
        refine ih (k + 2) _ [] ?_ (by rw [smF_nil]; exact hm) (addN_le _ _) h5 (by omega)
        rw [List.drop_eq_nil_of_le (by have := List.drop_eq_nil_iff.1 h3; omega)]
      | cons v rest =>
        obtain ⟨h4, h5, h6⟩ := cell_at hs h3
        rw [smF_cons1] at hm
        obtain ⟨b, rfl, hb1, hm⟩ := byO_some hm
        have lo := lor_le ha1 hb1
        rw [ble_t (show Nat.succ (k + 1) ≤ n by omega), cd_t, w_ad (show k + 1 ≤ 9223372036854775807 by omega), w_is h4 (by omega), w_l1 hr hg h5, w_ci (show b ≤ 9223372036854775807 by omega), w_or (show _ ≤ 9223372036854775807 by omega) (show b ≤ 9223372036854775807 by omega), cf_ad (by omega) (by omega), w_ad (show k + 2 ≤ 9223372036854775807 by omega)]
        exact ih (k + 2) _ rest h6 hm (addN_le _ _) (by omega) (by omega)
noncomputable def finO (z : Nat) (h : H) (s : Sy) : R := fR (Nat.sub 65535 z) fun c => .ret ((.i .i64 (.ofNat c), h), s)
noncomputable def O77 (x : X) (call : CT) (args : List V) (h : H) (s : Sy) : R := match args with
  | [v] => ovS 158 W77 (fun z h s => cB (Nat.ble z 65535) (finO z h s) .fail) (W77 x call [v] h s) call 0 v h s
  | _ => .fail
theorem KO77 : FastOk Tryz.prog 100000 77 O77 := by
  intro ρ callY n C hx args h s v h' s' hr
  unfold Runs O77 at hr
  split at hr
  · rename_i u
    rcases ovS_run C hr with e | ⟨r, o, m, c, e, l, ty, w, cs, z, k, rfl, a1, a2, a3, a4, a5, rfl, a6⟩
    · exact K77 ρ callY n C hx _ h s v h' s' e
    · rw [cB_eq] at a6
      cases hz : Nat.ble z 65535 with
      | false => rw [hz] at a6; cases a6
      | true =>
        rw [hz] at a6
        refine K77 ρ (adT 158) (k + 1) (add158 ρ k hx) hx _ h s v h' s' ?_
        unfold Runs
        show (F77 pr0 _ _ _ h s).run ρ = _
        unfold F77
        rw [lp77 a2 a3 a4 a1 (Nat.le_of_ble_eq_true hz) 100000 0 0 cs rfl a5 (by omega) (by omega) (by omega)]
        simp only [cond_true, finO, fR_eq] at a6
        exact a6
  · cases hr
theorem lp505 {x : X} {l : List V} {ty : TypeId} {w : Bool} {r o n c : Nat} {e : Bool} {h : H} {s : Sy} {z : Nat} {cs : List V} (hr : r < h.next) (hg : h.mem.get r = some (.c l ty w)) (hs : sub l o n = some cs) (hn : n ≤ 100000) : ∀ (fuel k acc : Nat) (rest : List V), cs.drop k = rest → smF rest false 0 acc = some z → acc ≤ 65536 → k ≤ n → k % 2 = 0 → n + 2 < 2 * fuel + k →
    F505_27 pr0 x (adT 554) fuel (.i .i64 (.ofNat acc)) (.sl r o n c e) (.i .i64 (.ofNat k)) h s = .ret ((.i .i64 (.ofNat z), h), s) := by
  intro fuel
  induction fuel with
  | zero => intro k acc rest _ _ _ h1 _ h2; omega
  | succ fuel ih =>
    intro k acc rest hd hm ha hk hev hf
    rw [s505]
    simp only [pr_ad, pr_sb, pr_re, pr_an, pr_or, pr_eq, pr_lt, pr_sl, pr_sr, pr_ci, pr_ls, pr_is, pr_l1, pr_cf, pr_cd]
    rw [w_ad (show k + 1 ≤ 9223372036854775807 by omega)]
    rw [w_ls (by omega)]
    rw [w_lt (show k + 1 ≤ 9223372036854775807 by omega) (show n ≤ 9223372036854775807 by omega)]
    cases rest with
    | nil =>
      have := past hs hd
      rw [ble_f (by omega)]
      rw [cd_f]
      rw [smF_nil] at hm
      cases hm
      simp only [F505_31, F505_35, F505_4, F505_7, pr_ad, pr_sb, pr_re, pr_an, pr_or, pr_eq, pr_lt, pr_sl, pr_sr, pr_ci, pr_ls, pr_is, pr_l1, pr_cf, pr_cd]
      rw [w_ls (by omega), w_re (show n ≤ 9223372036854775807 by omega) (by decide) rfl, w_eq (show _ ≤ 9223372036854775807 by omega) (by decide), show Nat.beq (n % 2) 1 = false by rw [show n = k by omega, hev]; rfl, cd_f]
    | cons v rest =>
      obtain ⟨h1, h2, h3⟩ := cell_at hs hd
      rw [smF_cons] at hm
      obtain ⟨a, rfl, ha1, hm⟩ := byO_some hm
      have sh := shl_le ha1
      cases rest with
      | nil =>
        rw [smF_nil1] at hm
        have h4 := past hs h3
        cases hm
        rw [ble_f (by omega)]
        rw [cd_f]
        simp only [F505_31, F505_35, F505_4, F505_7, pr_ad, pr_sb, pr_re, pr_an, pr_or, pr_eq, pr_lt, pr_sl, pr_sr, pr_ci, pr_ls, pr_is, pr_l1, pr_cf, pr_cd]
        rw [w_ls (by omega), w_re (show n ≤ 9223372036854775807 by omega) (by decide) rfl, w_eq (show _ ≤ 9223372036854775807 by omega) (by decide), show Nat.beq (n % 2) 1 = true by rw [show n = k + 1 by omega, show (k + 1) % 2 = 1 by omega]; rfl, cd_t, w_ls (by omega), w_sb (by omega) (show n ≤ 9223372036854775807 by omega), w_is (show n - 1 < n by omega) (by omega), w_l1 hr hg (by rw [show n - 1 = k by omega]; exact h2), w_ci (show a ≤ 9223372036854775807 by omega), w_sl (by decide) (show a ≤ 9223372036854775807 by omega) (show _ ≤ 9223372036854775807 by omega), cf_ad (by omega) (by omega)]
      | cons v rest =>
        obtain ⟨h4, h5, h6⟩ := cell_at hs h3
        rw [smF_cons1] at hm
        obtain ⟨b, rfl, hb1, hm⟩ := byO_some hm
        have lo := lor_le ha1 hb1
        rw [ble_t (show Nat.succ (k + 1) ≤ n by omega)]
        rw [cd_t]
        simp only [F505_31, F505_35, F505_4, F505_7, pr_ad, pr_sb, pr_re, pr_an, pr_or, pr_eq, pr_lt, pr_sl, pr_sr, pr_ci, pr_ls, pr_is, pr_l1, pr_cf, pr_cd]
        rw [w_is h1 (by omega), w_l1 hr hg h2, w_ci (show a ≤ 9223372036854775807 by omega), w_sl (by decide) (show a ≤ 9223372036854775807 by omega) (show _ ≤ 9223372036854775807 by omega), w_ad (show k + 1 ≤ 9223372036854775807 by omega), w_is h4 (by omega), w_l1 hr hg h5, w_ci (show b ≤ 9223372036854775807 by omega), w_or (show _ ≤ 9223372036854775807 by omega) (show b ≤ 9223372036854775807 by omega), cf_ad (by omega) (by omega), w_ad (show k + 2 ≤ 9223372036854775807 by omega)]
        exact ih (k + 2) _ rest h6 hm (addN_le _ _) (by omega) (by omega) (by omega)
noncomputable def O505 (x : X) (call : CT) (args : List V) (h : H) (s : Sy) : R := match args with
  | [.i .i64 (.ofNat a), v] => cB (Nat.ble a 65536) (ovS 554 W505 (fun z h s => .ret ((.i .i64 (.ofNat z), h), s)) (W505 x call [.i .i64 (.ofNat a), v] h s) call a v h s) (W505 x call [.i .i64 (.ofNat a), v] h s)
  | l => W505 x call l h s
theorem KO505 : FastOk Tryz.prog 100000 505 O505 := by
  intro ρ callY n C hx args h s v h' s' hr
  unfold Runs O505 at hr
  split at hr
  · rename_i a u
    rw [cB_eq] at hr
    cases hz : Nat.ble a 65536 with
    | false => rw [hz] at hr; exact K505 ρ callY n C hx _ h s v h' s' hr
    | true =>
      rw [hz] at hr
      simp only [cond_true] at hr
      rcases ovS_run C hr with e | ⟨r, o, m, c, e, l, ty, w, cs, z, k, rfl, a1, a2, a3, a4, a5, rfl, a6⟩
      · exact K505 ρ callY n C hx _ h s v h' s' e
      · refine K505 ρ (adT 554) (k + 1) (add554 ρ k hx) hx _ h s v h' s' ?_
        unfold Runs
        show (F505 pr0 _ _ _ _ h s).run ρ = _
        unfold F505
        rw [lp505 a2 a3 a4 a1 100000 0 a cs rfl a5 (Nat.le_of_ble_eq_true hz) (by omega) (by omega) (by omega)]
        exact a6
  · exact K505 ρ callY n C hx _ h s v h' s' hr
/-! One byte more, at once. -/
theorem t54 : (mkX Tryz.prog).tt.get 54 = some ⟨.sl 5, 1, 24, false, none, [.ns], (.ns)⟩ := by rw [infP_eq]; kernel_rfl
theorem t5 : (mkX Tryz.prog).tt.get 5 = some ⟨.int .u8, 1, 1, false, (some [.i]), [.i .u8 0], (.i .u8 0)⟩ := by rw [infP_eq]; kernel_rfl
noncomputable def O186 (x : X) (call : CT) (args : List V) (h : H) (s : Sy) : R := match args with
  | [v1, v2] => pr0.cf call 97 [v1] h s fun v5 h5 s5 => pr0.nl v1 fun v8 => pr0.fa 1 v8 fun v9 => pr0.l1 v9 h5 fun v10 => pr0.bs x 54 1 [(0, v2)] h5 fun v12 h12 => apF 5 (apC x 54 54 v10 v12 h12 s5 fun v13 h13 s13 => pr0.nl v1 fun v14 => pr0.fa 1 v14 fun v15 => pr0.s1 v15 v13 h13 fun h16 => .ret ((.ni, h16), s13)) v10 v12 h12 s5 fun v13 h13 s13 => pr0.nl v1 fun v14 => pr0.fa 1 v14 fun v15 => pr0.s1 v15 v13 h13 fun h16 => .ret ((.ni, h16), s13)
  | l => W186 x call l h s
theorem O186_eq (call : CT) (args : List V) (h : H) (s : Sy) : O186 (mkX Tryz.prog) call args h s = W186 (mkX Tryz.prog) call args h s := by
  unfold O186
  split
  · simp only [apF_eq t54 rfl t5 rfl rfl]
    rfl
  · rfl
theorem KO186 : FastOk Tryz.prog 100000 186 O186 := by
  intro ρ callY n C hx args h s v h' s' hr
  unfold Runs at hr
  rw [O186_eq] at hr
  exact K186 ρ callY n C hx args h s v h' s' hr
/-! A builder is where it was made: told at once. -/
theorem t137 : (mkX Tryz.prog).tt.get 137 = some ⟨.ptr 139, 1, 8, false, none, [.np], (.np)⟩ := by rw [infP_eq]; kernel_rfl
theorem t139 : (mkX Tryz.prog).tt.get 139 = some ⟨.st [(0, 137, 1), (1, 54, 1)], 2, 32, true, none, [.np, .ns], (.a [.np, .ns])⟩ := by rw [infP_eq]; kernel_rfl
theorem t346 : (mkX Tryz.prog).tt.get 346 = some ⟨.up, 1, 8, false, none, [.np], (.np)⟩ := by rw [infP_eq]; kernel_rfl
noncomputable def O97 (x : X) (call : CT) (args : List V) (h : H) (s : Sy) : R := match args with
  | [v] => vP v (W97 x call [v] h s) fun r o => cB (Nat.beq o 0 && Nat.ble (Nat.succ r) h.next) (oC (gtT h.mem r) (W97 x call [v] h s) fun b => bC b (W97 x call [v] h s) fun l _ _ => hdL l (W97 x call [v] h s) fun a => match a with
    | .np => pr0.cu x 137 346 v h fun v9 => pr0.cf call 185 [v9] h s fun v10 h10 s10 => cuF 139 2 (cuC x 346 137 v10 h10 fun v11 => pr0.nl v fun v12 => pr0.fa 0 v12 fun v13 => pr0.s1 v13 v11 h10 fun h14 => .ret ((.t [], h14), s10)) v10 h10 fun v11 => pr0.nl v fun v12 => pr0.fa 0 v12 fun v13 => pr0.s1 v13 v11 h10 fun h14 => .ret ((.t [], h14), s10)
    | .p r1 o1 => cB (Nat.beq r1 r && Nat.beq o1 0) (.ret ((.t [], h), s)) (W97 x call [v] h s)
    | _ => W97 x call [v] h s) (W97 x call [v] h s)
  | l => W97 x call l h s
theorem O97_eq {x : X} {i q w : TI} (ht : x.tt.get 137 = some i) (hk : i.k = .ptr 139) (he : x.tt.get 139 = some q) (hz : Nat.beq q.sz 0 = false) (hw : x.tt.get 346 = some w) (hwk : w.k = .up) (hq : q.sz = 2) (hU : unSliced x 139 = true) (call : CT) (args : List V) (h : H) (s : Sy) : O97 x call args h s = W97 x call args h s := by
  unfold O97
  split
  · rename_i v
    cases v <;> try rfl
    rename_i r o
    show cB _ _ _ = _
    rw [cB_eq]
    cases h0 : (Nat.beq o 0 && Nat.ble (Nat.succ r) h.next) with
    | false => rfl
    | true =>
      rw [Bool.and_eq_true] at h0
      cases Nat.eq_of_beq_eq_true h0.1
      have hr : r < h.next := Nat.le_of_ble_eq_true h0.2
      simp only [cond_true, gtT_eq]
      cases hg : h.mem.get r with
      | none => rfl
      | some b =>
        cases b <;> try rfl
        rename_i l ty own
        cases l with
        | nil => rfl
        | cons a l =>
          have e1 : pr0.eq = eqC := rfl
          have e2 : pr0.ne = neC := rfl
          have e3 : pr0.l1 = l1C := rfl
          have e4 : pr0.cu = cuC := rfl
          show (match a with
            | .np => _
            | .p r1 o1 => _
            | _ => _) = _
          split
          · rename_i hn
            have rd : ∀ (κ : V → R), l1C (.p r 0) h κ = κ .np := fun κ => w_l1 hr hg rfl
            show _ = F97 pr0 x call (.p r 0) h s
            unfold F97
            rw [e1, e2, e3, e4]
            show _ = l1C (.p r 0) h _
            rw [rd, eqC_nn ht hk]
            rw [← hq]
            simp only [cuF_eq hw hwk ht hk he (by rw [hq]; rfl) hU]
            rfl
          · rename_i r1 o1
            have rd : ∀ (κ : V → R), l1C (.p r 0) h κ = κ (.p r1 o1) := fun κ => w_l1 hr hg rfl
            show cB (Nat.beq r1 r && Nat.beq o1 0) _ _ = _
            rw [cB_eq]
            cases h1 : (Nat.beq r1 r && Nat.beq o1 0) with
            | false => rfl
            | true =>
              rw [Bool.and_eq_true] at h1
              cases Nat.eq_of_beq_eq_true h1.1
              cases Nat.eq_of_beq_eq_true h1.2
              show _ = F97 pr0 x call (.p _ 0) h s
              unfold F97
              rw [e1, e2, e3]
              show _ = l1C (.p _ 0) h _
              rw [rd, eqC_pn ht hk]
              show _ = l1C (.p _ 0) h _
              rw [rd, neC_pp ht hk he hz]
              rfl
          · rfl
  · rfl
theorem KO97 : FastOk Tryz.prog 100000 97 O97 := by
  intro ρ callY n C hx args h s v h' s' hr
  unfold Runs at hr
  rw [O97_eq t137 rfl t139 rfl t346 rfl rfl uns] at hr
  exact K97 ρ callY n C hx args h s v h' s' hr
noncomputable abbrev tabO : Tab := T.put (T.put (T.put (T.put tab 77 (some O77)) 505 (some O505)) 186 (some O186)) 97 (some O97)
theorem tabOkO : TabOk Tryz.prog 100000 tabO := tab_put (tab_put (tab_put (tab_put tabOk KO77) KO505) KO186) KO97
end Go.Proofs.YtcebbmappnbegaaGreatDoor.Bodies
