/- Who has which address: the walks of 'Tick' and 'New'. -/
import Derived.Test.YtfkbofbdonmpfaaPq5
set_option linter.unusedSimpArgs false
set_option linter.unusedVariables false
set_option linter.unusedSectionVars false
set_option linter.unnecessarySimpa false
set_option maxRecDepth 100000
namespace Go.Proofs.Ytfkbofbdonmpfaa.Wb
open Go.Am

theorem vece_At {α : Type} {h : H} {v : V} {el sz : Nat} {enc : α → List V} {es : List α} (hs : ∀ e, (enc e).length = sz) (hv : VecE h v el sz enc es) {i b : Nat} (hi : i < es.length) (hb : vblk v = some b) : At h v b (i * sz) sz (enc es[i]) := by
  obtain ⟨h0, hv⟩ := hv
  rcases hv with ⟨_, hn⟩ | ⟨r, cap, e, l, rfl, h2, h3, h4, h5⟩
  · omega
  · cases hb
    have hle : i * sz + sz ≤ es.length * sz := by rw [← Nat.add_one_mul]; exact Nat.mul_le_mul_right _ hi
    have hle2 : es.length * sz ≤ l.length := by rw [h4]; exact Nat.mul_le_mul_right _ h3
    refine ⟨rfl, hs _, l, el, h2, by omega, ?_⟩
    rw [← encs_at hs es i hi, h5, List.drop_take, List.take_take, Nat.min_eq_left (by omega)]

theorem vece_blk {α : Type} {h : H} {v : V} {el sz : Nat} {enc : α → List V} {es : List α} (hv : VecE h v el sz enc es) {z : Nat} (hz : vblk v = some z) : ∃ l ty w, h.mem.get z = some (.c l ty w) := by
  obtain ⟨_, ⟨rfl, _⟩ | ⟨q, cap, e, l, rfl, h2, _⟩⟩ := hv
  · cases hz
  · cases hz
    exact ⟨l, el, true, h2⟩

def overE (T : Int) (e : He) : Bool := !e.told && !decide (T < e.l.un)
def tickE (T : Int) (e : He) : He := if overE T e = true then ⟨e.l, true⟩ else e
def tickL (T : Int) (es : List He) : List Le := (es.filter (overE T)).map He.l
theorem tickE_l (T : Int) (e : He) : (tickE T e).l = e.l := by unfold tickE; split <;> rfl

set_option maxHeartbeats 1000000 in
theorem tick_ok {n : Nat} (hn : 13 ≤ n) {r : Nat} {c : Option Nat} {first last tn t : Int} {es : List He} (hl : es.length ≤ 64) (hr : ∀ e ∈ es, 0 ≤ e.l.a ∧ e.l.a ≤ 255) (hs : es.Pairwise fun x y => x.l.a ≤ y.l.a) {h : H} {K : V → H → Prop} (ht : PL h r c first last tn es)
    (hk : ∀ h' v, Bd h' → But2 h h' r c → PL h' r c first last (timeP tn t) (es.map (tickE (timeP tn t))) → VecE h' v 92 11 encL (tickL (timeP tn t) es) → (∀ q, vblk v = some q → h.next ≤ q) → K v h') : Ok Try.prog n 46 [.p r 0, .i .i64 t] h K := by
  obtain ⟨n, rfl⟩ := Nat.exists_eq_add_of_le' (show 1 ≤ n by omega)
  refine K46 fun hbd => ?_
  simp (disch := omega) only [F46, cf_k]
  refine time_ok (by omega) ht fun h1 hbd1 hb1 ht1 => ?_
  generalize timeP tn t = T at hk ht1 ⊢
  have hcl : ∀ q, c = some q → q < h1.next := (ht1.lt hbd1).2
  obtain ⟨lv, mb, kk, g1, g2, g3⟩ := id ht1
  have r3 : ∀ κ : V → Prop, pw.l1 (.p r (0 + 3)) h1 κ = κ lv := fun κ => l1_a g1 rfl
  simp (disch := omega) only [ws, r3, vece_len tt142 rfl g2]
  have main : ∀ (fuel k : Nat) (h' : H) (acc : V) (cur : List He), es.length < fuel + k → k ≤ es.length → Bd h' → But2 h1 h' r c → PL h' r c first last T cur → ∀ hlen : cur.length = es.length, (∀ j (hj : j < es.length), cur[j]'(by omega) = if j < k then tickE T es[j] else es[j]) → VecE h' acc 92 11 encL (tickL T (es.take k)) → (∀ q, vblk acc = some q → h1.next ≤ q) → F46_19 pw xx (Ok Try.prog n) K fuel (.p r 0) acc (.i .i64 (es.length : Nat)) (.i .i64 (k : Nat)) h' := by
    intro fuel
    induction fuel with
    | zero => intro k h' acc cur a1 a2; omega
    | succ fuel ih =>
      intro k h' acc cur a1 a2 hbd' hb htc hlen hcur hva hfr
      rw [S46_19]
      have hal : (tickL T (es.take k)).length ≤ k := by
        unfold tickL
        rw [List.length_map]
        refine Nat.le_trans (List.length_filter_le _ _) ?_
        rw [List.length_take]; omega
      have hac : ∀ z, c = some z → vblk acc ≠ some z := fun z hz e => by have := hcl z hz; have := hfr z e; omega
      by_cases hlt : k < es.length
      · have e1 : es.take (k + 1) = es.take k ++ [es[k]] := List.take_succ_eq_append_getElem hlt
        have e2 : tickL T (es.take (k + 1)) = tickL T (es.take k) ++ (if overE T es[k] = true then [es[k].l] else []) := by
          unfold tickL
          rw [e1, List.filter_append, List.map_append]
          by_cases c : overE T es[k] = true <;> simp [c]
        have hck : cur[k]'(by omega) = es[k] := by rw [hcur k hlt, if_neg (by omega)]
        obtain ⟨lv', mb', kk', f1, f2, f3, f4, f5, f6, f7⟩ := id htc
        have r3' : ∀ κ : V → Prop, pw.l1 (.p r (0 + 3)) h' κ = κ lv' := fun κ => l1_a f1 rfl
        simp (disch := omega) only [ws, dec_t, F46_25, r3']
        refine vece_at encH_len f2 (i := k) rfl (by omega) fun b ha => ?_
        rw [hck] at ha
        rw [nl_p, fa_p]
        have gt : ∀ κ : V → Prop, pw.l1 (.p b (k * 12 + 11)) h' κ = κ (.b es[k].told) := fun κ => ha.get (x := .b es[k].told) rfl
        -- nothing is done
        have skip : ∀ h2, Bd h2 → h2 = h' → overE T es[k] = false → F46_30 pw xx (Ok Try.prog n) K (F46_19 pw xx (Ok Try.prog n) K fuel) (.p r 0) acc (.i .i64 (es.length : Nat)) (.i .i64 (k : Nat)) h2 := by
          intro h2 _ hh ho
          subst hh
          simp (disch := omega) only [F46_30, ws]
          rw [ho, if_neg (by simp), List.append_nil] at e2
          refine ih (k + 1) h2 acc cur (by omega) (by omega) hbd' hb htc hlen (fun j hj => ?_) (by rw [e2]; exact hva) hfr
          rw [hcur j hj]
          by_cases c1 : j < k
          · rw [if_pos c1, if_pos (by omega)]
          · rw [if_neg c1]
            by_cases c2 : j < k + 1
            · obtain rfl : j = k := by omega
              rw [if_pos c2, tickE, if_neg (by rw [ho]; simp)]
            · rw [if_neg c2]
        simp only [gt]
        cases hto : es[k].told with
        | true =>
          simp (disch := omega) only [ws, Bool.not_true]
          exact skip h' hbd' rfl (by simp [overE, hto])
        | false =>
          simp (disch := omega) only [ws, Bool.not_false]
          refine live_ok (by omega) (j := k) (by omega) htc fun _ => ?_
          rw [hck]
          by_cases c1 : T < es[k].l.un
          · simp (disch := omega) only [ws, dec_t c1, Bool.not_true]
            exact skip h' hbd' rfl (by simp [overE, c1])
          · have ho : overE T es[k] = true := by simp [overE, hto, c1]
            simp (disch := omega) only [ws, dec_f c1, Bool.not_false]
            refine vece_set1 encH_len f2 (i := k) (by omega) ha.blk (f := 11) (by omega) rfl (e' := ⟨es[k].l, true⟩) (by rw [hck]; rfl) fun h2 hv2 hb2 => ?_
            have hbd2 := hb2.2.2 hbd'
            have ha2 := vece_At encH_len hv2 (i := k) (by rw [List.length_set]; omega) ha.blk
            have l11 : ∀ κ : V → Prop, pw.ln 11 (.p b (k * 12 + 0)) h2 κ = κ (.a (encL es[k].l)) := fun κ => by
              rw [ha2.getn (f := 0) (n := 11) (by omega)]
              simp only [List.getElem_set_self]
              rfl
            simp (disch := omega) only [ws, l11]
            have hacn : vblk acc ≠ vblk lv' := fun e => by
              have := ha.blk
              rw [f3] at this e
              exact hac b this (e.trans this)
            have hva2 := hva.keep (hva.lt hbd') hb2 (.inl hacn)
            refine acc_ok hva2 hbd2 (by omega) fun v6 h6 hbd6 hv6 hb6 hq6 => ?_
            rw [ho, if_pos rfl] at e2
            simp (disch := omega) only [F46_30, ws]
            have hb16 : But2 h1 h6 r c := ((hb.trans (hb2.two (.inr (.inr f3))))).over (p := c) (q := vblk acc) (hb6.two (.inr (.inr rfl))) (.inr fun z e => hfr z e)
            have ht6 : PL h6 r c first last T (cur.set k ⟨es[k].l, true⟩) := by
              have hra : vblk acc ≠ some r := fun e => by have := hfr r e; have := (ht1.lt hbd1).1; omega
              have hma : vblk acc ≠ some mb' := fun e => by
                obtain ⟨l, ty, w, hl⟩ := vece_blk hva e
                rw [f5] at hl
                cases hl
              have m1 := hb2.get (hbd' _ _ f5) (fun e => f7 (f3.symm.trans e.symm)) f5
              have m2 := hb2.get (hbd' _ _ f1) (fun e => f4 (f3.symm.trans e.symm)) f1
              exact ⟨lv', mb', kk', hb6.get (hbd2 _ _ m2) (fun e => hra e.symm) m2, hv2.keep (hv2.lt hbd2) hb6 (.inl (fun e => hacn e.symm)), f3, f4, hb6.get (hbd2 _ _ m1) (fun e => hma e.symm) m1, f6, f7⟩
            refine ih (k + 1) h6 v6 (cur.set k ⟨es[k].l, true⟩) (by omega) (by omega) hbd6 hb16 ht6 (by rw [List.length_set]; exact hlen) (fun j hj => ?_) (by rw [e2]; exact hv6) fun z hz => ?_
            · rw [List.getElem_set]
              by_cases c2 : k = j
              · subst c2
                rw [if_pos rfl, if_pos (by omega), tickE, if_pos ho]
              · rw [if_neg c2, hcur j hj]
                by_cases c3 : j < k
                · rw [if_pos c3, if_pos (by omega)]
                · rw [if_neg c3, if_neg (by omega)]
            · rcases hq6 with h | ⟨y, h, hy⟩
              · exact hfr z (h ▸ hz)
              · rw [h] at hz; cases hz; exact Nat.le_trans (Nat.le_trans hb.1 hb2.1) hy
      · simp (disch := omega) only [ws, dec_f, F46_8]
        rw [List.take_of_length_le (by omega)] at hva hal
        have hmap : cur = es.map (tickE T) := List.ext_getElem (by simp [hlen]) fun j h1 h2 => by
          rw [hcur j (by omega), if_pos (by omega), List.getElem_map]
        refine sorted_ok (by omega) (by omega) ?_ ?_ hva fun h6 hbd6 hb6 => ?_
        · intro e he
          unfold tickL at he
          obtain ⟨x, hx, rfl⟩ := List.mem_map.1 he
          exact hr x (List.mem_filter.1 hx).1
        · exact List.pairwise_map.2 (hs.filter _)
        · refine hk h6 acc hbd6 (((hb1.two (.inr (.inl rfl))).trans hb).trans (hb6.two (.inl rfl))) (by rw [← hmap]; exact htc.keep hbd' hb6) (hva.keep (hva.lt hbd') hb6 (.inr rfl)) fun q hq => Nat.le_trans hb1.1 (hfr q hq)
  exact main 100000 0 h1 .ns es (by omega) (by omega) hbd1 ((But.refl _ _).two (.inl rfl)) ht1 rfl (fun j hj => by simp) ⟨rfl, .inl ⟨rfl, rfl⟩⟩ fun q hq => by cases hq

theorem mk_a {x : X} {t : TypeId} {i : TI} {a b : TypeId} (ht : x.tt.get t = some i) (hk : i.k = .mp a b) {h : H} {κ : V → H → Prop} (K : ∀ r h', h'.mem.get r = some (.mp [] 0) → But h h' none → h.next ≤ r → r < h'.next → κ (.m r) h') : pw.mk_ x t h κ := by
  show oP (x.tt.get t) _
  rw [ht]
  simp only [oP, hk]
  exact K h.next _ get_same (But.new _ _ _) (Nat.le_refl _) (Nat.lt_succ_self _)

theorem new_ok {n : Nat} (hn : 2 ≤ n) {first last : Int} (h1 : 0 ≤ first ∧ first ≤ last ∧ last ≤ 255) (h2 : last - first < 64) {h : H} {K : V → H → Prop} (hk : ∀ r h', Bd h' → But h h' none → h.next ≤ r → PL h' r none first last 0 [] → K (.t [.p r 0, .i .i64 0]) h') : Ok Try.prog n 40 [.a (adV first), .a (adV last), .ns] h K := by
  obtain ⟨n, rfl⟩ := Nat.exists_eq_add_of_le' hn
  refine Ok.bd (K40 (n := n + 1) fun hbd => ?_)
  simp only [F40]
  refine bx_a (cs := adV first) rfl fun p h3 hp hb3 _ hp2 => ?_
  refine bx_a (cs := adV last) rfl fun q h4 hq hb4 _ hq2 => ?_
  have hp' := hb4.get hp2 (by simp) hp
  simp only [ln_w (sz := 4) hp' rfl, ln_w (sz := 4) hq rfl, cf_k]
  refine num_ok (by omega) (by omega) fun h5 hbd5 hb5 => ⟨fun z hz => hb5.2.1 z hz (by simp), ?_⟩
  refine num_ok (by omega) (by omega) fun h6 hbd6 hb6 => ?_
  have sb : ∀ κ : V → Prop, pw.sb xx 59 (.i .u32 (numA last)) (.i .u32 (numA first)) κ = κ (.i .u32 (last - first)) := fun κ => by
    rw [sb_u32 (by simp only [numA]; omega)]
    congr 2
    simp only [numA]; omega
  have d1 : decide (numA last < numA first) = false := decide_eq_false (by simp only [numA]; omega)
  simp (disch := omega) only [ws, d1, sb, dec_f, F40_14, nsl]
  rw [show (100000 : Nat) = 99999 + 1 from rfl, S40_34]
  simp (disch := omega) only [ws, dec_f, F40_18]
  refine K86 fun _ => ?_
  have e0 : ∀ κ : V → Prop, pw.eq xx 89 .ns .ns κ = κ (.b true) := fun κ => by
    simp only [pw, bin, ti, tt89, eqOp, eqF, eqK, if_true, oP]
  simp only [F86, e0, cd_t]
  refine mk_a tt141 rfl fun mb h7 hm hb7 hm1 hm2 => ?_
  refine bl_a (v := .a [.i .u32 (numA first), .i .u32 (numA last), .ns, .ns, .m mb, .i .i64 0]) ?_ ?_
  · simp only [blW, ti, tt144, placesSt, cellsOfV, List.getElem?_cons_zero, List.getElem?_cons_succ, fillA]; rfl
  refine bx_a (cs := [.i .u32 (numA first), .i .u32 (numA last), .ns, .ns, .m mb, .i .i64 0]) rfl fun r h8 hr hb8 hr1 hr2 => ?_
  intro hbd8
  have hb06 := ((hb3.trans hb4).trans (hb5.trans hb6)).trans (hb7.trans hb8)
  refine hk r h8 hbd8 hb06 (Nat.le_trans (((hb3.trans hb4).trans (hb5.trans hb6)).trans hb7).1 hr1) ⟨.ns, mb, 0, hr, ⟨rfl, .inl ⟨rfl, rfl⟩⟩, rfl, by simp, hb8.get hm2 (by simp) hm, by omega, by simp⟩
end Go.Proofs.Ytfkbofbdonmpfaa.Wb
