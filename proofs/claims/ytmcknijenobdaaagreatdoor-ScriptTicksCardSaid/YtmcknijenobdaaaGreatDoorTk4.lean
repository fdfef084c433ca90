/- A text cut at a byte. -/
import Derived.Test.YtmcknijenobdaaaGreatDoorTk2
set_option linter.unusedSimpArgs false
set_option linter.unusedVariables false
set_option linter.unusedSectionVars false
set_option linter.unnecessarySimpa false
set_option maxRecDepth 100000
namespace Go.Am
section
variable {x : X} {t el : TypeId} {i j : TI} {h : H} {κh : V → H → Prop}
theorem ms_a (ht : x.tt.get t = some i) (hk : i.k = .sl el) (hj : x.tt.get el = some j) {n : Nat} {k k' : IntKind} (hb : n * j.by_ ≤ 1099511627776) (hn : n ≤ 1099511627776)
    (K : ∀ r h', h'.mem.get r = some (.c (repl n j.zero) el true) → But h h' none → h.next ≤ r → r < h'.next → κh (.sl r 0 n n false) h') : pw.ms x t (.i k (n : Int)) (.i k' (n : Int)) h κh := by
  show (0 : Int) ≤ n ∧ (n : Int) ≤ n ∧ oP (x.tt.get t) _
  refine ⟨by omega, Int.le_refl _, ?_⟩
  rw [ht]
  simp only [oP, hk]
  rw [hj]
  simp only [Int.toNat_natCast]
  exact ⟨hb, hn, K h.next _ get_same (But.new _ _ _) (Nat.le_refl _) (Nat.lt_succ_self _)⟩
end
end Go.Am
namespace Go.Proofs.YtmcknijenobdaaaGreatDoor.Wb
open Go Go.Am Go.Am.Xm

def joinB (c : UInt8) : List Bs → Bs
  | [] => []
  | [r] => r
  | r :: r2 :: rs => r ++ c :: joinB c (r2 :: rs)
theorem count_join {c : UInt8} : ∀ {rows : List Bs}, rows ≠ [] → (∀ r ∈ rows, c ∉ r) → (joinB c rows).count c = rows.length - 1
  | [], h, _ => absurd rfl h
  | [r], _, h => by
    simp only [joinB, List.length_cons, List.length_nil]
    exact List.count_eq_zero.2 (h r List.mem_cons_self)
  | r :: r2 :: rs, _, h => by
    have ih := count_join (c := c) (rows := r2 :: rs) (by simp) (fun q hq => h q (List.mem_cons_of_mem _ hq))
    simp only [joinB, List.count_append, List.count_cons_self, List.count_eq_zero.2 (h r List.mem_cons_self), ih, List.length_cons]
    omega
theorem index_app {c : UInt8} : ∀ {r : Bs} (t : Bs), c ∉ r → Lib.indexByte (r ++ c :: t) c = r.length
  | [], t, _ => by simp [Lib.indexByte]
  | a :: r, t, h => by
    have ha : (a == c) = false := by
      rw [beq_eq_false_iff_ne]
      rintro rfl
      exact h List.mem_cons_self
    have ih := index_app (c := c) (r := r) t fun hm => h (List.mem_cons_of_mem _ hm)
    have hn : (Lib.indexByte (r ++ c :: t) c == -1) = false := by rw [ih]; simp
    simp only [List.cons_append, Lib.indexByte, ha, hn, ih]
    simp
theorem join_len {c : UInt8} : ∀ {rows : List Bs} {r : Bs}, r ∈ rows → r.length ≤ (joinB c rows).length
  | [q], r, h => by simp only [List.mem_singleton] at h; subst h; exact Nat.le_refl _
  | q :: q2 :: qs, r, h => by
    rcases List.mem_cons.1 h with rfl | h
    · simp [joinB]
    · have := join_len (c := c) (rows := q2 :: qs) h
      simp only [joinB, List.length_append, List.length_cons]
      omega
theorem rows_len {c : UInt8} : ∀ {rows : List Bs}, rows.length ≤ (joinB c rows).length + 1
  | [] => by simp
  | [q] => by simp
  | q :: q2 :: qs => by
    have := rows_len (c := c) (rows := q2 :: qs)
    simp only [joinB, List.length_append, List.length_cons] at this ⊢
    omega

def encS (b : Bs) : List V := [.s b]
theorem encS_len (b : Bs) : (encS b).length = 1 := rfl

theorem cs_nat {n : Nat} {l : Bs} {c : UInt8} {h : H} {K : V → H → Prop} (k : K (.i .i64 (l.count c)) h) : Ok Tryz.prog (n + 1) 130 [.s l, .i .u8 c.toNat] h K := by
  refine ext_ok Tryz.func130 (by kernel_rfl) (by kernel_rfl) (by kernel_rfl) (v := .i .i64 (l.count c)) ?_ k
  have : Tryz.f130.name = "internal/bytealg.CountString" := by kernel_rfl
  rw [this]
  show (some (V.i .i64 (Lib.countByte l ((c.toNat : Int).toNat.toUInt8))) : Option V) = _
  simp [Lib.countByte]
theorem count_ok {n : Nat} (hn : 2 ≤ n) {l : Bs} {c : UInt8} {h : H} {K : V → H → Prop} (k : Bd h → K (.i .i64 (l.count c)) h) : Ok Tryz.prog n 80 [.s l, .s [c]] h K := by
  obtain ⟨n, rfl⟩ := Nat.exists_eq_add_of_le' hn
  refine Ok.bd (K80 fun hbd => ?_)
  unfold F80
  have e0 : ∀ κ : V → Prop, pw.ix (mkX Tryz.prog) 9 (.s [c]) (.i .i64 0) κ = κ (.i .u8 c.toNat) := fun κ => ix_s tt9 rfl (n := 0) rfl
  simp (disch := omega) only [ws, lg_s tt9 rfl, List.length_singleton, Int.cast_ofNat_Int, dec_t, dec_f, F80_4, e0]
  exact cs_nat fun hb => k hbd
theorem index_ok {n : Nat} (hn : 4 ≤ n) {l : Bs} {c : UInt8} {h : H} {K : V → H → Prop} (k : K (.i .i64 (Lib.indexByte l c)) h) : Ok Tryz.prog n 81 [.s l, .s [c]] h K := by
  obtain ⟨n, rfl⟩ := Nat.exists_eq_add_of_le' hn
  refine Ok.bd (K81 fun hbd => ?_)
  unfold F81
  simp (disch := omega) only [ws]
  exact idx1_ok (by omega) fun _ => k

set_option maxHeartbeats 8000000 in
/-- Cut at a byte: the rows, in a slice of their own. -/
theorem split_ok {n : Nat} (hn : 6 ≤ n) {rows : List Bs} {c : UInt8} {h : H} {K : V → H → Prop} (h0 : rows ≠ []) (hc : ∀ r ∈ rows, c ∉ r) (hl : (joinB c rows).length ≤ 99000)
    (k : ∀ h' r, Bd h' → But h h' none → h.next ≤ r → r < h'.next → h'.mem.get r = some (.c (rows.map .s) 9 true) → K (.sl r 0 rows.length rows.length false) h') : Ok Tryz.prog n 17 [.s (joinB c rows), .s [c]] h K := by
  obtain ⟨n, rfl⟩ := Nat.exists_eq_add_of_le' hn
  refine Ok.bd (K17 fun hbd => ?_)
  unfold F17
  simp (disch := omega) only [ws]
  refine K45 fun hbd => ?_
  have hr := rows_len (c := c) (rows := rows)
  have hp : 0 < rows.length := List.length_pos_iff.2 h0
  unfold F45
  simp (disch := omega) only [ws, dec_f, F45_6, eq_s, show ([c] == ([] : Bs)) = false from rfl, F45_11, dec_t]
  refine count_ok (by omega) fun hbd => ?_
  rw [count_join h0 hc]
  simp (disch := omega) only [ws]
  unfold F45_16
  rw [lg_s tt9 rfl]
  simp (disch := omega) only [ws]
  have e1 : pw.mm true (.i .i64 (((rows.length - 1 : Nat) : Int) + 1)) (.i .i64 (((joinB c rows).length : Int) + 1)) = fun κ => κ (.i .i64 (rows.length : Nat)) := by
    funext κ
    show oP (some (V.i .i64 (if ((joinB c rows).length : Int) + 1 < ((rows.length - 1 : Nat) : Int) + 1 then _ else _))) κ = _
    rw [if_neg (by omega), show (((rows.length - 1 : Nat) : Int) + 1) = (rows.length : Nat) by omega]
    rfl
  rw [e1]
  refine ms_a tt75 rfl tt9 (by simp only; omega) (by omega) fun r h1 g1 f1 l1 l1' => ?_
  simp (disch := omega) only [ws]
  have hz : ∀ m, repl m [V.s []] = List.replicate m (V.s []) := fun m => by
    induction m with
    | zero => rfl
    | succ m ih => rw [repl, ih, List.replicate_succ]; rfl
  rw [hz] at g1
  have key : ∀ (fuel i : Nat) (done todo : List Bs) (h2 : H), rows.length < fuel + i → rows = done ++ todo → done.length = i → todo ≠ [] → Bd h2 → But h h2 none → r < h2.next → h2.mem.get r = some (.c (done.map .s ++ List.replicate (rows.length - i) (V.s [])) 9 true) →
      F45_48 pw (mkX Tryz.prog) (Ok Tryz.prog (n + 4)) (fun v h' => Bd h' → K v h') fuel (.s (joinB c todo)) (.s [c]) (.i .i64 0) (.i .i64 ((rows.length : Int) - 1)) (.sl r 0 rows.length rows.length false) (.i .i64 i) h2 := by
    intro fuel
    induction fuel with
    | zero =>
      intro i done todo h2 h3 h4 h5 h6
      have := congrArg List.length h4
      rw [List.length_append] at this
      have := List.length_pos_iff.2 h6
      omega
    | succ fuel ih =>
      intro i done todo h2 h3 h4 h5 h6 hb f hr2 g
      have hlen := congrArg List.length h4
      rw [List.length_append] at hlen
      rw [S45_48]
      cases todo with
      | nil => exact absurd rfl h6
      | cons q todo =>
        cases todo with
        | nil =>
          simp only [List.length_cons, List.length_nil] at hlen
          simp (disch := omega) only [ws, dec_f]
          unfold F45_34
          try rw [is_sl1 (by omega)]
          simp only [Nat.mul_one]
          refine s1_a g (by simp; omega) rfl fun h4' g4 f4 => ?_
          simp (disch := omega) only [ws]
          have e3 : slc (mkX Tryz.prog) 75 (.sl r 0 rows.length rows.length false) none (some (.i .i64 ((i : Int) + 1))) none = some (.sl r 0 rows.length rows.length false) := by
            have := slc_sl (x := mkX Tryz.prog) tt75 rfl tt9 (r := r) (o := 0) (n := rows.length) (cap := rows.length) (e := false) (lv := none) (hv := some (.i .i64 ((rows.length : Nat) : Int))) (lo := 0) (hi := rows.length) (bound_i (Nat.le_refl _)) (bound_n _ _) hp
            rw [show ((i : Int) + 1) = ((rows.length : Nat) : Int) by omega, this]
            simp
          show oP (slc _ _ _ _ _ _) _
          rw [e3]
          have e4 : ((done.map V.s ++ List.replicate (rows.length - i) (V.s [])).set (0 + (i : Int).toNat) (.s (joinB c [q]))) = rows.map .s := by
            rw [show rows.length - i = 1 by omega, Int.toNat_natCast, Nat.zero_add, ← h5, h4]
            simp [joinB]
          rw [e4] at g4
          intro hb4
          exact k h4' r hb4 (bn1 f f4 fun z hz => by cases hz; exact l1) l1 (Nat.lt_of_lt_of_le hr2 f4.1) g4
        | cons q2 todo =>
          simp only [List.length_cons] at hlen
          simp (disch := omega) only [ws, dec_t]
          unfold F45_55
          simp (disch := omega) only [ws]
          have hq : c ∉ q := hc q (by rw [h4]; simp)
          refine index_ok (by omega) ?_
          have ej : joinB c (q :: q2 :: todo) = q ++ c :: joinB c (q2 :: todo) := rfl
          rw [ej, index_app _ hq]
          simp (disch := omega) only [ws, dec_f]
          have hql : q.length ≤ (joinB c rows).length := join_len (by rw [h4]; simp)
          unfold F45_66
          simp (disch := omega) only [ws]
          rw [show ((q.length : Int) + 0) = ((q.length : Nat) : Int) by omega]
          rw [sc_s0 tt9 rfl (by simp)]
          try rw [is_sl1 (by omega)]
          simp only [Nat.mul_one]
          refine s1_a g (by simp; omega) rfl fun h4' g4 f4 => ?_
          rw [lg_s tt9 rfl]
          simp (disch := omega) only [ws, List.length_singleton, Int.cast_ofNat_Int]
          rw [show ((q.length : Int) + 1) = ((q.length + 1 : Nat) : Int) by omega, sc_s1 tt9 rfl (by simp)]
          try simp (disch := omega) only [ws]
          have e5 : (q ++ c :: joinB c (q2 :: todo)).take q.length = q := by simp
          have e6 : (q ++ c :: joinB c (q2 :: todo)).drop (q.length + 1) = joinB c (q2 :: todo) := by
            rw [show q ++ c :: joinB c (q2 :: todo) = (q ++ [c]) ++ joinB c (q2 :: todo) by simp]
            exact List.drop_left' (by simp)
          rw [e5] at g4
          rw [e6, show ((i : Int) + 1) = ((i + 1 : Nat) : Int) by omega]
          refine ih (i + 1) (done ++ [q]) (q2 :: todo) h4' (by omega) (by rw [h4]; simp) (by simp [h5]) (by simp) (f4.2.2 hb) (bn1 f f4 fun z hz => by cases hz; exact l1) (Nat.lt_of_lt_of_le hr2 f4.1) ?_
          have e7 : ((done.map V.s ++ List.replicate (rows.length - i) (V.s [])).set (0 + (i : Int).toNat) (.s q)) = (done ++ [q]).map .s ++ List.replicate (rows.length - (i + 1)) (V.s []) := by
            rw [Int.toNat_natCast, Nat.zero_add, show rows.length - i = (rows.length - (i + 1)) + 1 by omega, List.replicate_succ, ← h5]
            simp
          rw [← e7]
          exact g4
  have := key 100000 0 [] rows h1 (by omega) rfl rfl h0 (f1.2.2 hbd) f1 l1' (by simpa using g1)
  exact this
end Go.Proofs.YtmcknijenobdaaaGreatDoor.Wb
