/- Sums over bytes, made at once: that they come to what the program's own loops come to. -/
import Derived.Test.YtpegimipbigmbaaGreatDoorM8
import Derived.Test.YtpegimipbigmbaaGreatDoorBaT
set_option linter.unusedSimpArgs false
set_option linter.unusedVariables false
set_option linter.unusedSectionVars false
set_option linter.unnecessarySimpa false
set_option maxRecDepth 100000
namespace Go.Proofs.YtpegimipbigmbaaGreatDoor.Bodies
open Go.Am
theorem s39 (p : Pr) (x : X) (call : CT) (n : Nat) (v11 v12 v13 : V) (h : H) (s : Sy) : F39_10 p x call (n + 1) v11 v12 v13 h s = (p.ls x 28 v11 s fun v57 s57 => p.lt x 3 v13 v57 s57 fun v58 s58 => p.cd v58 (F39_14 p x call (F39_10 p x call n) v11 v12 v13 h s58) (F39_4 p x call v12 h s58)) := rfl
theorem s409 (p : Pr) (x : X) (call : CT) (n : Nat) (v28 v29 v30 : V) (h : H) (s : Sy) : F409_27 p x call (n + 1) v28 v29 v30 h s = (p.ad x 3 v30 (.i .i64 (.ofNat 1)) s fun v59 s59 => p.ls x 28 v29 s59 fun v61 s61 => p.lt x 3 v59 v61 s61 fun v62 s62 => p.cd v62 (F409_31 p x call (F409_27 p x call n) v28 v29 v30 h s62) (F409_4 p x call v28 v29 h s62)) := rfl
theorem add114 : AddOk Tryz.prog 114 := add_of K114 fun x call a b h s ha hb => by
 have h1 := land_le a
 have h2 := land_le b
 have h3 := land_le (Nat.land a 65535 + Nat.land b 65535)
 have h4 := shr_le (Nat.land a 65535 + Nat.land b 65535) (by omega)
 show F114 pr0 x call _ _ h s = _
 simp only [F114, pr_ad, pr_sb, pr_re, pr_an, pr_or, pr_eq, pr_lt, pr_sl, pr_sr, pr_ci, pr_ls, pr_is, pr_l1, pr_cf, pr_cd]
 rw [w_an (show a ≤ 9223372036854775807 by omega) (by decide), w_an (show b ≤ 9223372036854775807 by omega) (by decide), w_ad (show _ ≤ 9223372036854775807 by omega), w_an (show _ ≤ 9223372036854775807 by omega) (by decide), w_sr (by decide) (show _ ≤ 9223372036854775807 by omega) (show _ ≤ 9223372036854775807 by omega), w_ad (show _ ≤ 9223372036854775807 by omega)]
 rfl
theorem add503 : AddOk Tryz.prog 503 := add_of K503 fun x call a b h s ha hb => by
 have h1 := land_le a
 have h2 := land_le b
 have h3 := land_le (Nat.land a 65535 + Nat.land b 65535)
 have h4 := shr_le (Nat.land a 65535 + Nat.land b 65535) (by omega)
 show F503 pr0 x call _ _ h s = _
 simp only [F503, pr_ad, pr_sb, pr_re, pr_an, pr_or, pr_eq, pr_lt, pr_sl, pr_sr, pr_ci, pr_ls, pr_is, pr_l1, pr_cf, pr_cd]
 rw [w_an (show a ≤ 9223372036854775807 by omega) (by decide), w_an (show b ≤ 9223372036854775807 by omega) (by decide), w_ad (show _ ≤ 9223372036854775807 by omega), w_an (show _ ≤ 9223372036854775807 by omega) (by decide), w_sr (by decide) (show _ ≤ 9223372036854775807 by omega) (show _ ≤ 9223372036854775807 by omega), w_ad (show _ ≤ 9223372036854775807 by omega)]
 rfl
theorem cf_ad {f a b : Nat} {h : H} {s : Sy} {κ : V → H → Sy → R} (ha : a ≤ 4294967296) (hb : b ≤ 4294967296) : cfC (adT f) f [.i .i64 (.ofNat a), .i .i64 (.ofNat b)] h s κ = κ (.i .i64 (.ofNat (addN a b))) h s := by
 unfold cfC
 rw [adT_k ha hb]
 rfl
theorem cell_at {l cs : List V} {o n k : Nat} {v : V} {rest : List V} (hs : sub l o n = some cs) (hd : cs.drop k = v :: rest) : k < n ∧ l[o + k * 1]? = some v ∧ cs.drop (k + 1) = rest := by
 have hl := (sub_eq hs).2.2
 have hk : k < cs.length := by
  rcases Nat.lt_or_ge k cs.length with h | h
  ·exact h
  ·rw [List.drop_eq_nil_of_le h] at hd; cases hd
 rw [List.drop_eq_getElem_cons hk] at hd
 have h1 := (List.cons.inj hd).1
 refine ⟨by omega, ?_, (List.cons.inj hd).2⟩
 rw [Nat.mul_one, ← sub_get hs (by omega), List.getElem?_eq_getElem hk, h1]
theorem past {l cs : List V} {o n k : Nat} (hs : sub l o n = some cs) (hd : cs.drop k = []) : n ≤ k := by
 have hl := (sub_eq hs).2.2
 have := List.drop_eq_nil_iff.1 hd
 omega
theorem ble_f {a b : Nat} (h : b ≤ a) : Nat.ble (Nat.succ a) b = false := by
 cases e : Nat.ble (Nat.succ a) b with
 | false => rfl
 | true => have := Nat.le_of_ble_eq_true e; omega
theorem cd_t {A B : R} : cdC (.b true) A B = A := rfl
theorem cd_f {A B : R} : cdC (.b false) A B = B := rfl
theorem lp39 {x : X} {l : List V} {ty : TypeId} {w : Bool} {r o n c : Nat} {e : Bool} {h : H} {s : Sy} {z : Nat} {cs : List V} (hr : r < h.next) (hg : h.mem.get r = some (.c l ty w)) (hs : sub l o n = some cs) (hn : n ≤ 100000) (hz : z ≤ 65535) : ∀ (fuel k acc : Nat) (rest : List V), cs.drop k = rest → smF rest false 0 acc = some z → acc ≤ 65536 → k ≤ n + 1 → n + 2 < 2 * fuel + k →
  F39_10 pr0 x (adT 114) fuel (.sl r o n c e) (.i .i64 (.ofNat acc)) (.i .i64 (.ofNat k)) h s = .ret ((.i .i64 (.ofNat (65535 - z)), h), s) := by
 intro fuel
 induction fuel with
 | zero => intro k acc rest _ _ _ h1 h2; omega
 | succ fuel ih =>
  intro k acc rest hd hm ha hk hf
  rw [s39]
  simp only [pr_ad, pr_sb, pr_re, pr_an, pr_or, pr_eq, pr_lt, pr_sl, pr_sr, pr_ci, pr_ls, pr_is, pr_l1, pr_cf, pr_cd]
  rw [w_ls (by omega)]
  rw [w_lt (show k ≤ 9223372036854775807 by omega) (show n ≤ 9223372036854775807 by omega)]
  cases rest with
  | nil =>
   have := past hs hd
   rw [ble_f this]
   rw [cd_f]
   rw [smF_nil] at hm
   cases hm
   simp only [F39_14, F39_18, F39_32, F39_4, pr_ad, pr_sb, pr_re, pr_an, pr_or, pr_eq, pr_lt, pr_sl, pr_sr, pr_ci, pr_ls, pr_is, pr_l1, pr_cf, pr_cd]
   rw [w_sb (by omega) (by decide)]
  | cons v rest =>
   obtain ⟨h1, h2, h3⟩ := cell_at hs hd
   rw [smF_cons] at hm
   obtain ⟨a, rfl, ha1, hm⟩ := byO_some hm
   have sh := shl_le ha1
   rw [ble_t (show Nat.succ k ≤ n by omega)]
   rw [cd_t]
   simp only [F39_14, F39_18, F39_32, F39_4, pr_ad, pr_sb, pr_re, pr_an, pr_or, pr_eq, pr_lt, pr_sl, pr_sr, pr_ci, pr_ls, pr_is, pr_l1, pr_cf, pr_cd]
   rw [w_is h1 (by omega), w_l1 hr hg h2, w_ci (show a ≤ 9223372036854775807 by omega), w_sl (by decide) (show a ≤ 9223372036854775807 by omega) (show _ ≤ 9223372036854775807 by omega), w_ad (show k + 1 ≤ 9223372036854775807 by omega), w_ls (by omega), w_lt (show k + 1 ≤ 9223372036854775807 by omega) (show n ≤ 9223372036854775807 by omega)]
   cases rest with
   | nil =>
    rw [smF_nil1] at hm
    have h4 := past hs h3
    have h5 : k + 2 ≤ n + 1 := by omega
    rw [ble_f h4, cd_f, cf_ad (by omega) (by omega), w_ad (show k + 2 ≤ 9223372036854775807 by omega)]
    refine ih (k + 2) _ [] ?_ (by rw [smF_nil]; exact hm) (addN_le _ _) h5 (by omega)
    rw [List.drop_eq_nil_of_le (by have := List.drop_eq_nil_iff.1 h3; omega)]
   | cons v rest =>
    obtain ⟨h4, h5, h6⟩ := cell_at hs h3
    rw [smF_cons1] at hm
    obtain ⟨b, rfl, hb1, hm⟩ := byO_some hm
    have lo := lor_le ha1 hb1
    rw [ble_t (show Nat.succ (k + 1) ≤ n by omega), cd_t, w_ad (show k + 1 ≤ 9223372036854775807 by omega), w_is h4 (by omega), w_l1 hr hg h5, w_ci (show b ≤ 9223372036854775807 by omega), w_or (show _ ≤ 9223372036854775807 by omega) (show b ≤ 9223372036854775807 by omega), cf_ad (by omega) (by omega), w_ad (show k + 2 ≤ 9223372036854775807 by omega)]
    exact ih (k + 2) _ rest h6 hm (addN_le _ _) (by omega) (by omega)
noncomputable def finO (z : Nat) (h : H) (s : Sy) : R := fR (Nat.sub 65535 z) fun c => .ret ((.i .i64 (.ofNat c), h), s)
noncomputable def O39 (x : X) (call : CT) (args : List V) (h : H) (s : Sy) : R := match args with
 | [v] => ovS 114 W39 (fun z h s => cB (Nat.ble z 65535) (finO z h s) .fail) (W39 x call [v] h s) call 0 v h s
 | _ => .fail
theorem KO39 : FastOk Tryz.prog 100000 39 O39 := by
 intro ρ callY n C hx args h s v h' s' hr
 unfold Runs O39 at hr
 split at hr
 ·rename_i u
  rcases ovS_run C hr with e | ⟨r, o, m, c, e, l, ty, w, cs, z, k, rfl, a1, a2, a3, a4, a5, rfl, a6⟩
  ·exact K39 ρ callY n C hx _ h s v h' s' e
  ·rw [cB_eq] at a6
   cases hz : Nat.ble z 65535 with
   | false => rw [hz] at a6; cases a6
   | true =>
    rw [hz] at a6
    refine K39 ρ (adT 114) (k + 1) (add114 ρ k hx) hx _ h s v h' s' ?_
    unfold Runs
    show (F39 pr0 _ _ _ h s).run ρ = _
    unfold F39
    rw [lp39 a2 a3 a4 a1 (Nat.le_of_ble_eq_true hz) 100000 0 0 cs rfl a5 (by omega) (by omega) (by omega)]
    simp only [cond_true, finO, fR_eq] at a6
    exact a6
 ·cases hr
theorem lp409 {x : X} {l : List V} {ty : TypeId} {w : Bool} {r o n c : Nat} {e : Bool} {h : H} {s : Sy} {z : Nat} {cs : List V} (hr : r < h.next) (hg : h.mem.get r = some (.c l ty w)) (hs : sub l o n = some cs) (hn : n ≤ 100000) : ∀ (fuel k acc : Nat) (rest : List V), cs.drop k = rest → smF rest false 0 acc = some z → acc ≤ 65536 → k ≤ n → k % 2 = 0 → n + 2 < 2 * fuel + k →
  F409_27 pr0 x (adT 503) fuel (.i .i64 (.ofNat acc)) (.sl r o n c e) (.i .i64 (.ofNat k)) h s = .ret ((.i .i64 (.ofNat z), h), s) := by
 intro fuel
 induction fuel with
 | zero => intro k acc rest _ _ _ h1 _ h2; omega
 | succ fuel ih =>
  intro k acc rest hd hm ha hk hev hf
  rw [s409]
  simp only [pr_ad, pr_sb, pr_re, pr_an, pr_or, pr_eq, pr_lt, pr_sl, pr_sr, pr_ci, pr_ls, pr_is, pr_l1, pr_cf, pr_cd]
  rw [w_ad (show k + 1 ≤ 9223372036854775807 by omega)]
  rw [w_ls (by omega)]
  rw [w_lt (show k + 1 ≤ 9223372036854775807 by omega) (show n ≤ 9223372036854775807 by omega)]
  cases rest with
  | nil =>
   have := past hs hd
   rw [ble_f (by omega)]
   rw [cd_f]
   rw [smF_nil] at hm
   cases hm
   simp only [F409_31, F409_35, F409_4, F409_7, pr_ad, pr_sb, pr_re, pr_an, pr_or, pr_eq, pr_lt, pr_sl, pr_sr, pr_ci, pr_ls, pr_is, pr_l1, pr_cf, pr_cd]
   rw [w_ls (by omega), w_re (show n ≤ 9223372036854775807 by omega) (by decide) rfl, w_eq (show _ ≤ 9223372036854775807 by omega) (by decide), show Nat.beq (n % 2) 1 = false by rw [show n = k by omega, hev]; rfl, cd_f]
  | cons v rest =>
   obtain ⟨h1, h2, h3⟩ := cell_at hs hd
   rw [smF_cons] at hm
   obtain ⟨a, rfl, ha1, hm⟩ := byO_some hm
   have sh := shl_le ha1
   cases rest with
   | nil =>
    rw [smF_nil1] at hm
    have h4 := past hs h3
    cases hm
    rw [ble_f (by omega)]
    rw [cd_f]
    simp only [F409_31, F409_35, F409_4, F409_7, pr_ad, pr_sb, pr_re, pr_an, pr_or, pr_eq, pr_lt, pr_sl, pr_sr, pr_ci, pr_ls, pr_is, pr_l1, pr_cf, pr_cd]
    rw [w_ls (by omega), w_re (show n ≤ 9223372036854775807 by omega) (by decide) rfl, w_eq (show _ ≤ 9223372036854775807 by omega) (by decide), show Nat.beq (n % 2) 1 = true by rw [show n = k + 1 by omega, show (k + 1) % 2 = 1 by omega]; rfl, cd_t, w_ls (by omega), w_sb (by omega) (show n ≤ 9223372036854775807 by omega), w_is (show n - 1 < n by omega) (by omega), w_l1 hr hg (by rw [show n - 1 = k by omega]; exact h2), w_ci (show a ≤ 9223372036854775807 by omega), w_sl (by decide) (show a ≤ 9223372036854775807 by omega) (show _ ≤ 9223372036854775807 by omega), cf_ad (by omega) (by omega)]
   | cons v rest =>
    obtain ⟨h4, h5, h6⟩ := cell_at hs h3
    rw [smF_cons1] at hm
    obtain ⟨b, rfl, hb1, hm⟩ := byO_some hm
    have lo := lor_le ha1 hb1
    rw [ble_t (show Nat.succ (k + 1) ≤ n by omega)]
    rw [cd_t]
    simp only [F409_31, F409_35, F409_4, F409_7, pr_ad, pr_sb, pr_re, pr_an, pr_or, pr_eq, pr_lt, pr_sl, pr_sr, pr_ci, pr_ls, pr_is, pr_l1, pr_cf, pr_cd]
    rw [w_is h1 (by omega), w_l1 hr hg h2, w_ci (show a ≤ 9223372036854775807 by omega), w_sl (by decide) (show a ≤ 9223372036854775807 by omega) (show _ ≤ 9223372036854775807 by omega), w_ad (show k + 1 ≤ 9223372036854775807 by omega), w_is h4 (by omega), w_l1 hr hg h5, w_ci (show b ≤ 9223372036854775807 by omega), w_or (show _ ≤ 9223372036854775807 by omega) (show b ≤ 9223372036854775807 by omega), cf_ad (by omega) (by omega), w_ad (show k + 2 ≤ 9223372036854775807 by omega)]
    exact ih (k + 2) _ rest h6 hm (addN_le _ _) (by omega) (by omega) (by omega)
noncomputable def O409 (x : X) (call : CT) (args : List V) (h : H) (s : Sy) : R := match args with
 | [.i .i64 (.ofNat a), v] => cB (Nat.ble a 65536) (ovS 503 W409 (fun z h s => .ret ((.i .i64 (.ofNat z), h), s)) (W409 x call [.i .i64 (.ofNat a), v] h s) call a v h s) (W409 x call [.i .i64 (.ofNat a), v] h s)
 | l => W409 x call l h s
theorem KO409 : FastOk Tryz.prog 100000 409 O409 := by
 intro ρ callY n C hx args h s v h' s' hr
 unfold Runs O409 at hr
 split at hr
 ·rename_i a u
  rw [cB_eq] at hr
  cases hz : Nat.ble a 65536 with
  | false => rw [hz] at hr; exact K409 ρ callY n C hx _ h s v h' s' hr
  | true =>
   rw [hz] at hr
   simp only [cond_true] at hr
   rcases ovS_run C hr with e | ⟨r, o, m, c, e, l, ty, w, cs, z, k, rfl, a1, a2, a3, a4, a5, rfl, a6⟩
   ·exact K409 ρ callY n C hx _ h s v h' s' e
   ·refine K409 ρ (adT 503) (k + 1) (add503 ρ k hx) hx _ h s v h' s' ?_
    unfold Runs
    show (F409 pr0 _ _ _ _ h s).run ρ = _
    unfold F409
    rw [lp409 a2 a3 a4 a1 100000 0 a cs rfl a5 (Nat.le_of_ble_eq_true hz) (by omega) (by omega) (by omega)]
    exact a6
 ·exact K409 ρ callY n C hx _ h s v h' s' hr
noncomputable abbrev tabO : Tab := T.put (T.put tab 39 (some O39)) 409 (some O409)
theorem tabOkO : TabOk Tryz.prog 100000 tabO := tab_put (tab_put tabOk KO39) KO409
end Go.Proofs.YtpegimipbigmbaaGreatDoor.Bodies
