/- A number read. -/
import Derived.Test.YtbkhielalbbopaaGreatDoorZs4
set_option linter.unusedSimpArgs false
set_option linter.unusedVariables false
set_option linter.unusedSectionVars false
set_option linter.unnecessarySimpa false
set_option maxRecDepth 100000
namespace Go.Proofs.YtbkhielalbbopaaGreatDoor.Wb
open Go Go.Am Go.Am.Xm

theorem low_all : (List.range 256).all (fun n => decide (dig (UInt8.ofNat n) < 16 → ¬ n = 95 ∧ ((48 ≤ n ∧ n ≤ 57 ∧ n - 48 = dig (UInt8.ofNat n)) ∨ (¬ (48 ≤ n ∧ n ≤ 57) ∧ 97 ≤ Nat.lor n 32 ∧ Nat.lor n 32 ≤ 102 ∧ Nat.lor n 32 - 97 + 10 = dig (UInt8.ofNat n))))) = true := by decide +kernel
theorem low_dig {b : UInt8} (h : dig b < 16) : ¬ b.toNat = 95 ∧ ((48 ≤ b.toNat ∧ b.toNat ≤ 57 ∧ b.toNat - 48 = dig b) ∨ (¬ (48 ≤ b.toNat ∧ b.toNat ≤ 57) ∧ 97 ≤ Nat.lor b.toNat 32 ∧ Nat.lor b.toNat 32 ≤ 102 ∧ Nat.lor b.toNat 32 - 97 + 10 = dig b)) := by
  have := List.all_eq_true.1 low_all b.toNat (List.mem_range.2 b.toNat_lt)
  simp only [decide_eq_true_eq] at this
  have e : UInt8.ofNat b.toNat = b := by simp
  rw [e] at this
  exact this h
theorem or_all : (List.range 256).all (fun n => decide (IntKind.u8.wrap (BitVec.ofInt 8 (n : Int) ||| BitVec.ofInt 8 32).toNat = ((Nat.lor n 32 : Nat) : Int))) = true := by decide +kernel
theorem or_32 {t : TypeId} {b : UInt8} {κ : V → Prop} : pw.or (mkX Tryz.prog) t (.i .u8 b.toNat) (.i .u8 32) κ = κ (.i .u8 (Nat.lor b.toNat 32 : Nat)) := by
  rw [or_i]
  have := List.all_eq_true.1 or_all b.toNat (List.mem_range.2 b.toNat_lt)
  simp only [decide_eq_true_eq] at this
  rw [show IntKind.u8.bits = 8 from rfl, this]
theorem lower_ok {n : Nat} (hn : 1 ≤ n) {b : UInt8} {h : H} {K : V → H → Prop} (k : K (.i .u8 (Nat.lor b.toNat 32 : Nat)) h) : Ok Tryz.prog n 173 [.i .u8 b.toNat] h K := by
  obtain ⟨n, rfl⟩ := Nat.exists_eq_add_of_le' hn
  refine Ok.bd (K173 fun hbd => ?_)
  unfold F173
  rw [or_32]
  exact fun _ => k

theorem mu_u64 {t : TypeId} {m n : Int} {κ : V → Prop} (h : 0 ≤ m * n ∧ m * n < 18446744073709551616) : pw.mu (mkX Tryz.prog) t (.i .u64 m) (.i .u64 n) κ = κ (.i .u64 (m * n)) := by
  rw [mu_i, wrap_u64', Int.emod_eq_of_lt h.1 h.2]

/-- What the digits come to, step by step. -/
theorem digs_ok {n base : Nat} {d : Bs} {v : V} {cut : Int} {h : H} {K : V → H → Prop} (hb : base = 10 ∨ base = 16) (hc : 4294967296 ≤ cut) (hd : ∀ b ∈ d, dig b < 16) (hl : d.length ≤ 8) (hv : BytesAt h v d)
    (k : K (match numV base 0 d with | some z => .t [.i .u64 z, .ni] | none => .t [.i .u64 0, .ic 188 (.i .i64 2)]) h) :
    ∀ (rest : Bs) (i acc fuel : Nat), d.drop i = rest → rest.length < fuel → acc < base ^ i → i ≤ d.length → numV base 0 d = numV base acc rest →
      F150_67 pw (mkX Tryz.prog) (Ok Tryz.prog (n + 1)) K fuel (.i .i64 base) (.b false) (.s d) (.i .u64 cut) (.i .u64 4294967295) (.b false) (.i .u64 acc) v (.i .i64 d.length) (.i .i64 i) h := by
  intro rest
  induction rest with
  | nil =>
    intro i acc fuel hr hf ha hi hn
    obtain ⟨m, rfl⟩ : ∃ m, fuel = m + 1 := ⟨fuel - 1, by simp at hf; omega⟩
    rw [S150_67]
    have : d.length ≤ i := List.drop_eq_nil_iff.1 hr
    have d0 : decide ((i : Int) < (d.length : Int)) = false := decide_eq_false (by omega)
    simp (disch := omega) only [ws, d0, F150_42, F150_46]
    rw [hn] at k
    exact k
  | cons b rest ih =>
    intro i acc fuel hr hf ha hi hn
    obtain ⟨m, rfl⟩ : ∃ m, fuel = m + 1 := ⟨fuel - 1, by simp at hf; omega⟩
    rw [S150_67]
    have hlt : i < d.length := by
      rcases Nat.lt_or_ge i d.length with h | h
      · exact h
      · rw [List.drop_eq_nil_of_le h] at hr; cases hr
    have hbi : d.getD i 0 = b := by
      rw [List.drop_eq_getElem_cons hlt] at hr
      rw [List.getD_eq_getElem?_getD, List.getElem?_eq_getElem hlt, Option.getD_some]
      exact (List.cons.inj hr).1
    have hmem : b ∈ d := by
      have := List.mem_of_mem_drop (i := i) (l := d) (a := b) (by rw [hr]; exact List.mem_cons_self ..)
      exact this
    have hr2 : d.drop (i + 1) = rest := by
      rw [List.drop_eq_getElem_cons hlt] at hr
      exact (List.cons.inj hr).2
    obtain ⟨h95, hcase⟩ := low_dig (hd b hmem)
    have d0 : decide ((i : Int) < (d.length : Int)) = true := decide_eq_true (by omega)
    simp (disch := omega) only [ws, d0, F150_79]
    rw [bytes_get hv rfl hlt, hbi]
    have hb2 : 2 ≤ base ∧ base ≤ 16 := by omega
    have hp : base ^ (i + 1) ≤ 4294967296 := by
      have h1 : base ^ (i + 1) ≤ 16 ^ (i + 1) := Nat.pow_le_pow_left hb2.2 _
      have h2 : 16 ^ (i + 1) ≤ 16 ^ 8 := Nat.pow_le_pow_right (by decide) (by omega)
      have h3 : (16 : Nat) ^ 8 = 4294967296 := by decide
      omega
    have hps : base ^ (i + 1) = base ^ i * base := Nat.pow_succ ..
    have hacc : acc * base + base ≤ base ^ (i + 1) := by
      rw [hps]
      have := Nat.mul_le_mul_right base (show acc + 1 ≤ base ^ i from ha)
      rw [Nat.add_mul] at this
      omega
    have ha2 : acc ≤ acc * base := Nat.le_mul_of_pos_right _ (by omega)
    have fin : F150_107 pw (mkX Tryz.prog) (Ok Tryz.prog (n + 1)) K (F150_67 pw (mkX Tryz.prog) (Ok Tryz.prog (n + 1)) K m) (.i .i64 base) (.b false) (.s d) (.i .u64 cut) (.i .u64 4294967295) (.b false) (.i .u64 acc) (.i .u8 (dig b : Nat)) v (.i .i64 d.length) (.i .i64 i) h := by
      have hw : IntKind.u8.wrap (base : Int) = base := by rw [wrap_u8']; omega
      simp only [F150_107, ci_i, hw, ge_i]
      by_cases hlt2 : dig b < base
      · have d1 : decide ((base : Int) ≤ ((dig b : Nat) : Int)) = false := decide_eq_false (by omega)
        have d2 : decide (cut ≤ (acc : Int)) = false := decide_eq_false (by omega)
        have em : ((acc : Int) * (base : Int)) = ((acc * base : Nat) : Int) := by simp
        have w1 : IntKind.u64.wrap (base : Int) = base := by rw [wrap_u64']; omega
        have w2 : IntKind.u64.wrap ((dig b : Nat) : Int) = (dig b : Nat) := by rw [wrap_u64']; omega
        simp only [d1, cd_f, F150_119, ge_i, d2, F150_131, ci_i, w1, w2]
        rw [mu_u64 (by rw [em]; omega), em]
        have w3 : IntKind.u64.wrap (((acc * base : Nat) : Int) + ((dig b : Nat) : Int)) = ((acc * base + dig b : Nat) : Int) := by rw [wrap_u64']; omega
        have d3 : decide (((acc * base + dig b : Nat) : Int) < ((acc * base : Nat) : Int)) = false := decide_eq_false (by omega)
        have d4 : decide ((4294967295 : Int) < ((acc * base + dig b : Nat) : Int)) = false := decide_eq_false (by omega)
        simp only [ad_i, w3, lt_i, d3, g0_f, gt_i, d4, pk_f, cd_f, F150_153, F150_90]
        have w4 : IntKind.i64.wrap ((i : Int) + 1) = ((i + 1 : Nat) : Int) := by rw [wrap64_in (by omega)]; omega
        rw [w4]
        refine ih (i + 1) (acc * base + dig b) m hr2 (by simp at hf; omega) (by omega) hlt ?_
        rw [hn]
        simp only [numV, if_pos hlt2]
      · have d1 : decide ((base : Int) ≤ ((dig b : Nat) : Int)) = true := decide_eq_true (by omega)
        simp only [d1, cd_t]
        rw [mi_i tt188 (by simp)]
        rw [hn] at k
        simp only [numV, if_neg hlt2] at k
        exact k
    have e95 : decide ((b.toNat : Int) = 95) = false := decide_eq_false (by omega)
    simp only [eq_i, e95, g1_f, pk_f, cd_f, le_i]
    rcases hcase with ⟨c1, c2, c3⟩ | ⟨c1, c2, c3, c4⟩
    · have d1 : decide ((48 : Int) ≤ (b.toNat : Int)) = true := decide_eq_true (by omega)
      have d2 : decide ((b.toNat : Int) ≤ 57) = true := decide_eq_true (by omega)
      simp only [d1, g1_t, le_i, d2, pk_t, cd_t, sb_i]
      have w : IntKind.u8.wrap ((b.toNat : Int) - 48) = ((dig b : Nat) : Int) := by rw [wrap_u8', ← c3]; have := b.toNat_lt; omega
      rw [w]
      exact fin
    · have lw : IntKind.u8.wrap (((Nat.lor b.toNat 32 : Nat) : Int) - 97) = ((Nat.lor b.toNat 32 - 97 : Nat) : Int) := by rw [wrap_u8']; omega
      have lw2 : IntKind.u8.wrap (((Nat.lor b.toNat 32 - 97 : Nat) : Int) + 10) = ((dig b : Nat) : Int) := by rw [wrap_u8']; omega
      have l1 : decide ((97 : Int) ≤ ((Nat.lor b.toNat 32 : Nat) : Int)) = true := decide_eq_true (by omega)
      have l2 : decide (((Nat.lor b.toNat 32 : Nat) : Int) ≤ 122) = true := decide_eq_true (by omega)
      have tail : Ok Tryz.prog (n + 1) 173 [.i .u8 b.toNat] h fun v216 h216 =>
        pw.le (mkX Tryz.prog) 5 (.i .u8 97) v216 fun v217 =>
          pw.g1 v217 (fun κ => κ (.i .u8 b.toNat) h216) h216 fun v220 h220 =>
            pw.g1 v217 (fun κ => Ok Tryz.prog (n + 1) 173 [v220] h220 fun v221 h221 => κ v221 h221) h220 fun v222 h222 =>
              pw.g1 v217 (fun κ => pw.le (mkX Tryz.prog) 5 v222 (.i .u8 122) fun v223 => κ v223 h222) h222 fun v224 h224 =>
                pw.pk v217 v224 (.b false) fun v225 =>
                  pw.cd v225
                    (Ok Tryz.prog (n + 1) 173 [.i .u8 b.toNat] h224 fun v228 h228 =>
                      pw.sb (mkX Tryz.prog) 5 v228 (.i .u8 97) fun v229 =>
                        pw.ad (mkX Tryz.prog) 5 v229 (.i .u8 10) fun v230 =>
                          F150_107 pw (mkX Tryz.prog) (Ok Tryz.prog (n + 1)) K (F150_67 pw (mkX Tryz.prog) (Ok Tryz.prog (n + 1)) K m) (.i .i64 base) (.b false) (.s d) (.i .u64 cut) (.i .u64 4294967295) (.b false) (.i .u64 acc) v230 v (.i .i64 d.length) (.i .i64 i) h228)
                    (pw.mi (mkX Tryz.prog) 188 (.i .i64 2) fun v232 => K (.t [.i .u64 0, v232]) h224) := by
        refine lower_ok (by omega) ?_
        simp only [le_i, l1, g1_t]
        refine lower_ok (by omega) ?_
        simp only [le_i, l2, pk_t, cd_t]
        refine lower_ok (by omega) ?_
        simp only [sb_i, lw, ad_i, lw2]
        exact fin
      by_cases hb48 : 48 ≤ b.toNat
      · have d1 : decide ((48 : Int) ≤ (b.toNat : Int)) = true := decide_eq_true (by omega)
        have d2 : decide ((b.toNat : Int) ≤ 57) = false := decide_eq_false (by omega)
        simp only [d1, g1_t, le_i, d2, pk_t, cd_f, cf_k]
        exact tail
      · have d1 : decide ((48 : Int) ≤ (b.toNat : Int)) = false := decide_eq_false (by omega)
        simp only [d1, g1_f, pk_f, cd_f, cf_k]
        exact tail

theorem cb_s {h : H} {l : Bs} {κ : V → H → Prop} : pw.cb (mkX Tryz.prog) 9 60 (.s l) h κ = κ (.sl h.next 0 l.length l.length true) ⟨h.next + 1, h.mem.put h.next (some (.c (u8s l) 5 true))⟩ := by
  simp only [pw]
  rw [ti_some _ tt9, ti_some _ tt60]
  simp only
  rw [ti_some _ tt5]
  rfl

theorem pui_ok {n base : Nat} (hn : 2 ≤ n) {d : Bs} {h : H} {K : V → H → Prop} (hb : base = 10 ∨ base = 16) (hd : ∀ b ∈ d, dig b < 16) (h1 : 1 ≤ d.length) (hl : d.length ≤ 8)
    (k : ∀ h', But h h' none → K (match numV base 0 d with | some z => .t [.i .u64 z, .ni] | none => .t [.i .u64 0, .ic 188 (.i .i64 2)]) h') : Ok Tryz.prog n 150 [.s d, .i .i64 base, .i .i64 32] h K := by
  obtain ⟨n, rfl⟩ := Nat.exists_eq_add_of_le' hn
  refine Ok.bd (K150 fun hbd => ?_)
  unfold F150
  have hne : (d == ([] : Bs)) = false := by
    cases d with
    | nil => simp at h1
    | cons a d => rfl
  have b1 : decide ((base : Int) = 0) = false := decide_eq_false (by omega)
  have b2 : decide ((2 : Int) ≤ (base : Int)) = true := decide_eq_true (by omega)
  have b3 : decide ((base : Int) ≤ 36) = true := decide_eq_true (by omega)
  have b4 : decide ((32 : Int) = 0) = false := rfl
  have b5 : decide ((32 : Int) < 0) = false := rfl
  have b6 : decide ((64 : Int) < 32) = false := rfl
  rw [eq_s, hne]
  simp only [cd_f, F150_6, eq_i, b1, le_i, b2, g1_t, b3, pk_t, cd_t, F150_15, b4, lt_i, b5, g0_f, gt_i, b6, pk_f]
  have go : ∀ cut : Int, 4294967296 ≤ cut → F150_28 pw (mkX Tryz.prog) (Ok Tryz.prog (n + 1)) (fun v h' => Bd h' → K v h') (.s d) (.i .i64 base) (.i .i64 32) (.b false) (.s d) (.i .u64 cut) h := by
    intro cut hc
    unfold F150_28
    have s1 : ∀ κ : V → Prop, pw.sl (mkX Tryz.prog) 177 (.i .u64 1) (.i .u64 32) κ = κ (.i .u64 4294967296) := fun κ => by
      rw [sl_i (by decide)]
      rfl
    have s2 : ∀ κ : V → Prop, pw.sb (mkX Tryz.prog) 177 (.i .u64 4294967296) (.i .u64 1) κ = κ (.i .u64 4294967295) := fun κ => by
      rw [sb_i]
      rfl
    have s3 : IntKind.u64.wrap 32 = 32 := rfl
    simp only [ci_i, s3, s1, s2]
    rw [cb_s, ls_sl tt60 rfl]
    have hv : BytesAt ⟨h.next + 1, h.mem.put h.next (some (.c (u8s d) 5 true))⟩ (.sl h.next 0 d.length d.length true) d := by
      refine Vec.bytes (el := 5) (n := d.length) ⟨by simp [u8s], .inr ⟨h.next, d.length, true, u8s d, rfl, ?_, Nat.le_refl _, by simp [u8s], by rw [Nat.mul_one, ← u8s_len d, List.take_length]⟩⟩
      show (h.mem.put h.next _).get h.next = _
      rw [T.get_put, if_pos rfl]
    refine digs_ok hb hc hd hl hv ?_ d 0 0 100000 rfl (by omega) (by simp) (by omega) rfl
    intro _
    exact k _ (But.new _ _ _)
  rcases hb with rfl | rfl
  · have e : decide (((10 : Nat) : Int) = 10) = true := rfl
    simp only [F150_21, eq_i, e, cd_t]
    exact go _ (by decide)
  · have e : decide (((16 : Nat) : Int) = 10) = false := rfl
    have e2 : decide (((16 : Nat) : Int) = 16) = true := rfl
    simp only [F150_21, eq_i, e, e2, cd_t, cd_f]
    exact go _ (by decide)

/-- As strconv tells it. -/
theorem pu_ok {n base : Nat} (hn : 4 ≤ n) {d : Bs} {h : H} {K : V → H → Prop} (L : Low h) (hb : base = 10 ∨ base = 16) (hd : ∀ b ∈ d, dig b < 16) (h1 : 1 ≤ d.length) (hl : d.length ≤ 8)
    (k : ∀ h' e, But h h' none → (numV base 0 d = none → ∃ r, e = .ic 191 (.p r 0)) → (numV base 0 d ≠ none → e = .ni) → K (.t [.i .u64 ((numV base 0 d).getD 0 : Nat), e]) h') : Ok Tryz.prog n 188 [.s d, .i .i64 base, .i .i64 32] h K := by
  obtain ⟨n, rfl⟩ := Nat.exists_eq_add_of_le' hn
  refine Ok.bd (K188 fun hbd => ?_)
  unfold F188
  simp only [cf_k]
  refine pui_ok (by omega) hb hd h1 hl fun h2 f2 => ?_
  cases hv : numV base 0 d with
  | some z =>
    simp only [ex_t, List.getElem?_cons_zero, List.getElem?_cons_succ, oP_some]
    rw [bn_nn tt142 rfl]
    simp only [cd_f, F188_15]
    intro _
    have := k h2 .ni f2 (fun e => by rw [hv] at e; cases e) (fun _ => rfl)
    rw [hv] at this
    exact this
  | none =>
    simp only [ex_t, List.getElem?_cons_zero, List.getElem?_cons_succ, oP_some]
    rw [bn_in tt142 rfl]
    simp only [cd_t, c188]
    refine toerr_ok (by omega) (L.keep f2 (fun r e => by cases e)) (by omega) fun h3 r f3 => ?_
    intro _
    have := k h3 (.ic 191 (.p r 0)) (f2.trans f3) (fun _ => ⟨r, rfl⟩) (fun e => absurd hv e)
    rw [hv] at this
    exact this
end Go.Proofs.YtbkhielalbbopaaGreatDoor.Wb
