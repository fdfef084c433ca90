/- The machine minds no block's number: in a memory whose blocks bear other numbers it does the same. -/
import Derived.Test.YtpegimipbigmbaaGreatDoorM6
import Derived.Test.YtpegimipbigmbaaGreatDoorM3
import Derived.Lib.LaidTab
import Derived.Lib.LaidU8
import Derived.Handed
import Derived.HandedShaped
import Derived.Shelf.Vars
set_option linter.unusedSimpArgs false
set_option linter.unusedVariables false
set_option linter.unusedSectionVars false
set_option linter.unnecessarySimpa false
namespace Go.Am
mutual
def rn (j : Nat → Nat) : V → V
 | .p r o => .p (j r) o
 | .sl r o n c e => .sl (j r) o n c e
 | .se r o' o => .se (j r) o' o
 | .ze r => .ze (j r)
 | .zs r o' o => .zs (j r) o' o
 | .m r => .m (j r)
 | .f fn cs => .f fn (rns j cs)
 | .ic t v => .ic t (rn j v)
 | .a l => .a (rns j l)
 | .t l => .t (rns j l)
 | .b x => .b x
 | .i k n => .i k n
 | .s l => .s l
 | .np => .np
 | .ns => .ns
 | .nm => .nm
 | .nf => .nf
 | .ni => .ni
def rns (j : Nat → Nat) : List V → List V
 | [] => []
 | v :: l => rn j v :: rns j l
end
theorem rns_map (j : Nat → Nat) : ∀ l, rns j l = l.map (rn j)
 | [] => rfl
 | v :: l => by rw [rns, rns_map j l]; rfl
def rnE (j : Nat → Nat) (es : List (V × V × Nat)) : List (V × V × Nat) := es.map fun x => (rn j x.1, rn j x.2.1, x.2.2)
def rnB (j : Nat → Nat) : B → B
 | .c l t o => .c (l.map (rn j)) t o
 | .mp es c => .mp (rnE j es) c
 | .it s p => .it s p
structure Jn (j : Nat → Nat) : Prop where
 inj : ∀ {a b}, j a = j b → a = b
 fix : ∀ {r}, r < 16 → j r = r
section
variable {j : Nat → Nat}
theorem Jn.beq (J : Jn j) (a b : Nat) : Nat.beq (j a) (j b) = Nat.beq a b := by
 cases h : Nat.beq a b with
 | true => rw [Nat.eq_of_beq_eq_true h]; simp
 | false =>
  cases h2 : Nat.beq (j a) (j b) with
  | false => rfl
  | true =>
   rw [J.inj (Nat.eq_of_beq_eq_true h2)] at h
   simp at h
mutual
theorem rn_ofVal (J : Jn j) : ∀ v, rn j (ofVal v) = ofVal v
 | .bool _ => rfl
 | .int _ _ => rfl
 | .string _ => rfl
 | .agg ⟨l⟩ => by simp only [ofVal, rn, rn_ofVals J l]
 | .tuple ⟨l⟩ => by simp only [ofVal, rn, rn_ofVals J l]
 | .pointer none => rfl
 | .map none => rfl
 | .nilFunc => rfl
 | .nilIface => rfl
 | .pointer (some _) => by show V.m (j 0) = V.m 0; rw [J.fix (by decide)]
 | .map (some _) => by show V.m (j 0) = V.m 0; rw [J.fix (by decide)]
 | .float _ _ => by show V.m (j 0) = V.m 0; rw [J.fix (by decide)]
 | .complex _ _ _ => by show V.m (j 0) = V.m 0; rw [J.fix (by decide)]
 | .chan _ => by show V.m (j 0) = V.m 0; rw [J.fix (by decide)]
 | .func _ _ _ => by show V.m (j 0) = V.m 0; rw [J.fix (by decide)]
 | .iface _ _ => by show V.m (j 0) = V.m 0; rw [J.fix (by decide)]
 | .slice (some _) _ _ => by show V.m (j 0) = V.m 0; rw [J.fix (by decide)]
 | .slice none 0 0 => rfl
 | .slice none 0 (_ + 1) => by show V.m (j 0) = V.m 0; rw [J.fix (by decide)]
 | .slice none (_ + 1) _ => by show V.m (j 0) = V.m 0; rw [J.fix (by decide)]
theorem rn_ofVals (J : Jn j) : ∀ l, rns j (ofVals l) = ofVals l
 | [] => rfl
 | v :: l => by simp only [ofVals, rns, rn_ofVal J v, rn_ofVals J l]
end
end
section
variable {j : Nat → Nat}
theorem takeN_rn : ∀ (n : Nat) {l r : List V}, takeN l n = some r → takeN (l.map (rn j)) n = some (r.map (rn j))
 | 0, l, r, h => by simp only [takeN, Option.some.injEq] at h ⊢; subst h; rfl
 | n + 1, [], r, h => by simp only [takeN] at h; cases h
 | n + 1, v :: l, r, h => by
  simp only [takeN] at h
  split at h
  ·rename_i r' h1
   cases h
   simp only [List.map_cons, takeN, takeN_rn n h1]
  ·cases h
theorem sub_rn {l r : List V} {o n : Nat} (h : sub l o n = some r) : sub (l.map (rn j)) o n = some (r.map (rn j)) := by
 unfold sub at h ⊢
 rw [← List.map_drop]
 exact takeN_rn n h
theorem over_rn : ∀ {l vs r : List V}, over l vs = some r → over (l.map (rn j)) (vs.map (rn j)) = some (r.map (rn j))
 | l, [], r, h => by
  have : over l [] = some l := by cases l <;> rfl
  rw [this] at h
  cases h
  cases l <;> rfl
 | [], v :: vs, r, h => by simp only [over] at h; cases h
 | x :: l, v :: vs, r, h => by
  simp only [over] at h
  split at h
  ·rename_i r' h1
   cases h
   simp only [List.map_cons, over, over_rn h1]
  ·cases h
theorem overAt_rn : ∀ {l : List V} {o : Nat} {vs r : List V}, overAt l o vs = some r → overAt (l.map (rn j)) o (vs.map (rn j)) = some (r.map (rn j))
 | l, 0, vs, r, h => by
  have e : ∀ l vs, overAt l 0 vs = over l vs := fun l vs => by cases l <;> rfl
  rw [e] at h ⊢
  exact over_rn h
 | [], o + 1, [], r, h => by simp only [overAt] at h; cases h
 | [], o + 1, v :: vs, r, h => by simp only [overAt] at h; cases h
 | x :: l, o + 1, vs, r, h => by
  simp only [overAt] at h
  split at h
  ·rename_i r' h1
   cases h
   simp only [List.map_cons, overAt, overAt_rn h1]
  ·cases h
theorem cells_rn (v : V) : cellsOfV (rn j v) = (cellsOfV v).map (rn j) := by
 cases v <;> simp only [cellsOfV, rn, rns_map, List.map_cons, List.map_nil]
theorem oneV_rn (v : V) : oneV (rn j v) = oneV v := by cases v <;> rfl
theorem allOne_rn (vs : List V) : (vs.map (rn j)).all oneV = vs.all oneV := by
 rw [List.all_map]
 congr 1
 funext v
 exact oneV_rn v
theorem vOfCells_rn {i : TI} {l : List V} {v : V} (h : vOfCells i l = some v) : vOfCells i (l.map (rn j)) = some (rn j v) := by
 unfold vOfCells at h ⊢
 cases hi : i.agg with
 | true => rw [hi] at h; cases h; simp only [cond_true, rn, rns_map]
 | false =>
  rw [hi] at h
  simp only [cond_false] at h ⊢
  split at h
  ·cases h; rfl
  ·cases h
theorem len_cells (v : V) : (cellsOfV (rn j v)).length = (cellsOfV v).length := by rw [cells_rn, List.length_map]
def rnP (j : Nat → Nat) (ps : List (Nat × V)) : List (Nat × V) := ps.map fun x => (x.1, rn j x.2)
theorem fillA_rn : ∀ {ps : List (Nat × V)} {cs r : List V}, fillA cs ps = some r → fillA (cs.map (rn j)) (rnP j ps) = some (r.map (rn j))
 | [], cs, r, h => by cases h; rfl
 | (o, v) :: ps, cs, r, h => by
  simp only [fillA] at h
  split at h
  ·rename_i cs' h1
   show fillA _ ((o, rn j v) :: rnP j ps) = _
   simp only [fillA, cells_rn, overAt_rn h1]
   exact fillA_rn h
  ·cases h
theorem placesSt_rn {fs : List (Nat × Nat × Nat)} : ∀ {ps r : List (Nat × V)}, placesSt fs ps = some r → placesSt fs (rnP j ps) = some (rnP j r)
 | [], r, h => by cases h; rfl
 | (n, v) :: ps, r, h => by
  simp only [placesSt] at h
  show placesSt fs ((n, rn j v) :: rnP j ps) = _
  simp only [placesSt, len_cells]
  split at h
  ·rename_i o t sz hf
   cases hb : Nat.beq (cellsOfV v).length sz with
   | false => rw [hb] at h; cases h
   | true =>
    rw [hb] at h
    simp only [cond_true] at h ⊢
    split at h
    ·rename_i r' h1
     cases h
     rw [placesSt_rn h1]; rfl
    ·cases h
  ·cases h
theorem placesArr_rn {sz : Nat} : ∀ {ps r : List (Nat × V)}, placesArr sz ps = some r → placesArr sz (rnP j ps) = some (rnP j r)
 | [], r, h => by cases h; rfl
 | (n, v) :: ps, r, h => by
  simp only [placesArr] at h
  show placesArr sz ((n, rn j v) :: rnP j ps) = _
  simp only [placesArr, len_cells]
  cases hb : Nat.beq (cellsOfV v).length sz with
  | false => rw [hb] at h; cases h
  | true =>
   rw [hb] at h
   simp only [cond_true] at h ⊢
   split at h
   ·rename_i r' h1
    cases h
    rw [placesArr_rn h1]; rfl
   ·cases h
theorem lenV_rn (v : V) : lenV (rn j v) = lenV v := by cases v <;> rfl
theorem repl_rn (zs : List V) (hz : zs.map (rn j) = zs) : ∀ n, (repl n zs).map (rn j) = repl n zs
 | 0 => rfl
 | n + 1 => by simp only [repl, List.map_append, hz, repl_rn zs hz n]
theorem eqK_rn : ∀ {ks : List Kd} {l l' : List V} {b : Bool}, eqK ks l l' = some b → eqK ks (l.map (rn j)) (l'.map (rn j)) = some b := by
 intro ks
 induction ks with
 | nil =>
  intro l l' b h
  cases l <;> cases l' <;> first | exact h | (simp only [eqK] at h; cases h)
 | cons kd ks ih =>
  intro l l' b h
  cases l with
  | nil => cases kd <;> simp only [eqK] at h <;> cases h
  | cons v l =>
   cases l' with
   | nil => cases kd <;> cases v <;> simp only [eqK] at h <;> cases h
   | cons w l' =>
    cases kd <;> cases v <;> (try (simp only [eqK] at h; cases h; done)) <;> cases w <;> (try (simp only [eqK] at h; cases h; done))
    all_goals simp only [eqK] at h
    all_goals simp only [List.map_cons, rn, eqK]
    ·split at h
     ·rename_i hk
      rw [if_pos hk]
      split at h
      ·rename_i b' h1
       rw [ih h1]; exact h
      ·cases h
     ·cases h
    ·split at h
     ·rename_i b' h1
      rw [ih h1]; exact h
     ·cases h
    ·split at h
     ·rename_i b' h1
      rw [ih h1]; exact h
     ·cases h
end
section
variable {x : X} {j : Nat → Nat}
theorem eqF_rn {i : TI} {u v : V} {b : Bool} (h : eqF i u v = some b) : eqF i (rn j u) (rn j v) = some b := by
 unfold eqF at h ⊢
 cases hf : i.flat with
 | none => rw [hf] at h; cases h
 | some ks =>
  rw [hf] at h
  simp only at h ⊢
  cases ha : i.agg with
  | true =>
   rw [ha] at h
   cases u <;> (try (simp only at h; cases h; done)) <;> cases v <;> (try (simp only at h; cases h; done))
   simp only [rn, rns_map] at h ⊢
   exact eqK_rn h
  | false =>
   rw [ha] at h
   exact eqK_rn (j := j) (l := [u]) (l' := [v]) h
theorem eqF_shape {i : TI} {u v : V} {b : Bool} (h : eqF i u v = some b) : (∃ l l', u = .a l ∧ v = .a l') ∨ (∃ k m k' n, u = .i k m ∧ v = .i k' n) ∨ (∃ p q, u = .b p ∧ v = .b q) ∨ (∃ p q, u = .s p ∧ v = .s q) := by
 unfold eqF at h
 cases hf : i.flat with
 | none => rw [hf] at h; cases h
 | some ks =>
  rw [hf] at h
  simp only at h
  cases ha : i.agg with
  | true =>
   rw [ha] at h
   cases u <;> (try (simp only at h; cases h; done)) <;> cases v <;> (try (simp only at h; cases h; done))
   exact .inl ⟨_, _, rfl, rfl⟩
  | false =>
   rw [ha] at h
   simp only at h
   cases ks with
   | nil => simp only [eqK] at h; cases h
   | cons kd ks =>
    cases kd <;> cases u <;> (try (simp only [eqK] at h; cases h; done)) <;> cases v <;> (try (simp only [eqK] at h; cases h; done))
    ·exact .inr (.inl ⟨_, _, _, _, rfl, rfl⟩)
    ·exact .inr (.inr (.inl ⟨_, _, rfl, rfl⟩))
    ·exact .inr (.inr (.inr ⟨_, _, rfl, rfl⟩))
theorem eqOp_flat {i : TI} {u v : V} {b : Bool} (h : eqF i u v = some b) : eqOp x i u v = some b := by
 rcases eqF_shape h with ⟨l, l', rfl, rfl⟩ | ⟨k, m, k', n, rfl, rfl⟩ | ⟨p, q, rfl, rfl⟩ | ⟨p, q, rfl, rfl⟩ <;>
  (unfold eqOp; cases hk : i.k <;> exact h)
theorem eqOp_rn (J : Jn j) {i : TI} {u v : V} {b : Bool} (h : eqOp x i u v = some b) : eqOp x i (rn j u) (rn j v) = some b := by
 unfold eqOp at h
 split at h
 case h_1 hk =>
  obtain ⟨ie, hie, h⟩ := ti_ex h
  simp only [eqOp, rn, hk, ti_some _ hie, J.beq]
  exact h
 all_goals first
  | (rename_i hk; simp only [eqOp, rn, hk]; exact h)
  | exact eqOp_flat (eqF_rn h)
theorem ibin_flat {op : BinOp} {k : IntKind} {m n : Int} {w : V} (h : ibin op k m n = some w) : rn j w = w := by
 unfold ibin at h
 split at h <;> (try split at h) <;> first | (cases h; done) | (cases h; rfl)
theorem shft_flat {op : BinOp} {k : IntKind} {m n : Int} {w : V} (h : shft op k m n = some w) : rn j w = w := by
 unfold shft at h
 split at h
 ·cases h
 ·split at h <;> first | (cases h; done) | (cases h; rfl)
theorem sbin_flat {op : BinOp} {m n : List UInt8} {w : V} (h : sbin op m n = some w) : rn j w = w := by
 unfold sbin at h
 split at h
 ·cases hb : Nat.ble (m.length + n.length) 1099511627776 with
  | true => rw [hb] at h; cases h; rfl
  | false => rw [hb] at h; cases h
 all_goals first | (cases h; done) | (cases h; rfl)
def binD (x : X) (op : BinOp) (t : TypeId) (u v : V) : Option V := match op with
 | .eql => ti x t fun i => match eqOp x i u v with
  | some r => some (.b r)
  | none => none
 | .neq => ti x t fun i => match eqOp x i u v with
  | some r => some (.b (!r))
  | none => none
 | _ => none
theorem bin_D {op : BinOp} {t : TypeId} {u v : V} (a : ∀ (k : IntKind) (m : Int) (k' : IntKind) (n : Int), u = .i k m → v = .i k' n → False) (b : ∀ (m n : List UInt8), u = .s m → v = .s n → False) : bin x op t u v = binD x op t u v := by
 unfold bin
 split
 ·exact (a _ _ _ _ rfl rfl).elim
 ·exact (b _ _ rfl rfl).elim
 ·rfl
theorem i_rn {u : V} {k : IntKind} {m : Int} (h : rn j u = .i k m) : u = .i k m := by
 cases u <;> simp only [rn] at h <;> first | exact h | cases h
theorem s_rn {u : V} {m : List UInt8} (h : rn j u = .s m) : u = .s m := by
 cases u <;> simp only [rn] at h <;> first | exact h | cases h
theorem bin_rn (J : Jn j) {op : BinOp} {t : TypeId} {u v w : V} (h : bin x op t u v = some w) : bin x op t (rn j u) (rn j v) = some (rn j w) := by
 by_cases hi : ∃ k m k' n, u = .i k m ∧ v = .i k' n
 ·obtain ⟨k, m, k', n, rfl, rfl⟩ := hi
  have hw : rn j w = w := by
   unfold bin at h
   simp only at h
   split at h
   ·exact shft_flat h
   ·exact shft_flat h
   ·split at h
    ·exact ibin_flat h
    ·cases h
  rw [hw]
  exact h
 by_cases hs : ∃ m n, u = .s m ∧ v = .s n
 ·obtain ⟨m, n, rfl, rfl⟩ := hs
  have hw : rn j w = w := sbin_flat (op := op) (m := m) (n := n) h
  rw [hw]
  exact h
 rw [bin_D (fun k m k' n e1 e2 => hi ⟨_, _, _, _, e1, e2⟩) (fun m n e1 e2 => hs ⟨_, _, e1, e2⟩)] at h
 rw [bin_D (fun k m k' n e1 e2 => hi ⟨_, _, _, _, i_rn e1, i_rn e2⟩) (fun m n e1 e2 => hs ⟨_, _, s_rn e1, s_rn e2⟩)]
 unfold binD at h ⊢
 split at h
 ·obtain ⟨i, hi, h⟩ := ti_ex h
  simp only [ti_some _ hi]
  split at h
  ·rename_i r hr
   rw [eqOp_rn J hr]; cases h; rfl
  ·cases h
 ·obtain ⟨i, hi, h⟩ := ti_ex h
  simp only [ti_some _ hi]
  split at h
  ·rename_i r hr
   rw [eqOp_rn J hr]; cases h; rfl
  ·cases h
 ·cases h
theorem ni_rn {u : V} (h : rn j u = .ni) : u = .ni := by
 cases u <;> simp only [rn] at h <;> first | rfl | cases h
theorem binC_rn (J : Jn j) {op : BinOp} {t : TypeId} {c : Bool} {u v w : V} (h : binC x op t c u v = some w) : binC x op t c (rn j u) (rn j v) = some (rn j w) := by
 unfold binC at h
 split at h
 ·cases c with
  | false => cases h
  | true =>
   simp only [cond_true] at h
   obtain ⟨i, hi, h⟩ := ti_ex h
   simp only [rn, binC, cond_true, ti_some _ hi]
   split at h <;> first | (cases h; done) | (rename_i h1; cases h; simp only [h1, rn])
 ·rename_i n1
  have : binC x op t c (rn j u) (rn j v) = bin x op t (rn j u) (rn j v) := by
   unfold binC
   split
   ·rename_i e1 e2
    exact (n1 (ni_rn e1) (ni_rn e2)).elim
   ·rfl
  rw [this]
  exact bin_rn J h
theorem un_rn {op : UnOp} {u w : V} (h : un op u = some w) : un op (rn j u) = some (rn j w) := by
 unfold un at h
 split at h
 ·cases h; rfl
 ·have := ibin_flat (j := j) h
  rw [this]; exact h
 ·cases h; rfl
 ·cases h
theorem bound_rn (v : Option V) (d l : Nat) : bound (v.map (rn j)) d l = bound v d l := by
 cases v with
 | none => rfl
 | some v => cases v <;> rfl
end
section
variable {x : X} {j : Nat → Nat}
theorem goS_rn {r o len cap : Nat} {el : Bool} {sz : Nat} {lo hi mx : Option V} {w : V} (h : goS r o len cap el sz lo hi mx = some w) : goS (j r) o len cap el sz (lo.map (rn j)) (hi.map (rn j)) (mx.map (rn j)) = some (rn j w) := by
 unfold goS at h ⊢
 simp only [bound_rn]
 split at h
 ·cases h
 ·rename_i m hm
  try simp only [hm]
  split at h
  ·cases h
  ·rename_i hh hhh
   try simp only [hhh]
   split at h
   ·cases h
   ·rename_i l hl
    try simp only [hl]
    cases mx with
    | some mx =>
     cases hi with
     | none => cases h
     | some hi => simp only [Option.map_some] at h ⊢; cases h; rfl
    | none =>
     simp only [Option.map_none] at h ⊢
     cases hml : Nat.beq m l with
     | true =>
      rw [hml] at h
      simp only [cond_true] at h ⊢
      cases hhl : Nat.beq hh l with
      | false => rw [hhl] at h; cases h
      | true =>
       rw [hhl] at h
       simp only [cond_true] at h ⊢
       cases el <;> (simp only [cond_true, cond_false] at h ⊢; cases h; rfl)
     | false =>
      rw [hml] at h
      simp only [cond_false] at h ⊢
      cases hlm : Nat.blt l m with
      | false => rw [hlm] at h; cases h
      | true => rw [hlm] at h; simp only [cond_true] at h ⊢; cases h; rfl
theorem goE_rn {v : V} {lo hi mx : Option V} {w : V} (h : goE v lo hi mx = some w) : goE (rn j v) (lo.map (rn j)) (hi.map (rn j)) (mx.map (rn j)) = some (rn j w) := by
 unfold goE at h ⊢
 simp only [bound_rn]
 split at h
 ·cases h
 ·rename_i m hm
  try simp only [hm]
  split at h
  ·cases h
  ·rename_i hh hhh
   try simp only [hhh]
   split at h
   ·cases h
   ·rename_i l hl
    try simp only [hl]
    cases mx with
    | some mx =>
     cases hi with
     | none => cases h
     | some hi =>
      simp only [Option.map_some] at h ⊢
      cases v <;> (simp only at h; cases h; rfl)
    | none =>
     simp only [Option.map_none] at h ⊢
     cases h; rfl
theorem slc_rn {t : TypeId} {v : V} {lo hi mx : Option V} {w : V} (h : slc x t v lo hi mx = some w) : slc x t (rn j v) (lo.map (rn j)) (hi.map (rn j)) (mx.map (rn j)) = some (rn j w) := by
 unfold slc at h ⊢
 obtain ⟨i, hi', h⟩ := ti_ex h
 rw [ti_some _ hi']
 try simp only at h ⊢
 split at h
 ·have hk := ‹i.k = _›
  simp only [rn, hk]
  cases mx with
  | some m => cases h
  | none =>
   simp only [Option.map_none, bound_rn] at h ⊢
   split at h
   ·cases h
   ·rename_i a ha
    split at h
    ·cases h
    ·rename_i b hb
     try simp only [ha, hb]
     cases h; rfl
 ·have hk := ‹i.k = _›
  simp only [rn, hk]
  obtain ⟨q, hq, h⟩ := ti_ex h
  rw [ti_some _ hq]
  exact goS_rn h
 ·have hk := ‹i.k = _›
  simp only [rn, hk]
  obtain ⟨q, hq, h⟩ := ti_ex h
  rw [ti_some _ hq]
  exact goE_rn (v := .ns) h
 ·have hk := ‹i.k = _›
  simp only [rn, hk]
  obtain ⟨q, hq, h⟩ := ti_ex h
  rw [ti_some _ hq]
  exact goE_rn (v := .se _ _ _) h
 ·have hk := ‹i.k = _›
  simp only [rn, hk]
  obtain ⟨q, hq, h⟩ := ti_ex h
  rw [ti_some _ hq]
  exact goE_rn (v := .ze _) h
 ·have hk := ‹i.k = _›
  simp only [rn, hk]
  obtain ⟨q, hq, h⟩ := ti_ex h
  rw [ti_some _ hq]
  exact goS_rn h
 ·cases h
def EvR (j : Nat → Nat) (e e' : Env) : Prop := ∀ t, gv e' t = rn j (gv e t)
theorem EvR.put {e e' : Env} (E : EvR j e e') (d : Nat) (v : V) : EvR j (e.put d (some v)) (e'.put d (some (rn j v))) := fun t => by
 rw [gv_put, gv_put]
 by_cases h : d = t
 ·rw [if_pos h, if_pos h]
 ·rw [if_neg h, if_neg h]; exact E t
theorem EvR.putD {e e' : Env} (E : EvR j e e') (d : Option Nat) (v : V) : EvR j (putD e d v) (putD e' d (rn j v)) := by
 cases d with
 | none => exact E
 | some d => exact E.put d v
theorem ev_rn (J : Jn j) {e e' : Env} (E : EvR j e e') {u : Operand} (hu : opdOk u = true) : ev e' u = rn j (ev e u) := by
 cases u with
 | tmp t => exact E t
 | const v => exact (rn_ofVal J v).symm
 | global g =>
  have : g < 16 := by simpa only [opdOk, Nat.blt_eq] using hu
  show V.p g 0 = V.p (j g) 0
  rw [J.fix this]
 | func f => rfl
def Same (j : Nat → Nat) (e e' : Env) (l : List Operand) : Prop := ∀ u ∈ l, ev e' u = rn j (ev e u)
theorem evs_rn {e e' : Env} : ∀ {l : List Operand}, Same j e e' l → evs e' l = (evs e l).map (rn j)
 | [], _ => rfl
 | u :: l, S => by
  simp only [evs, List.map_cons]
  rw [S u List.mem_cons_self, evs_rn fun u hu => S u (List.mem_cons_of_mem _ hu)]
theorem parts_rn {e e' : Env} : ∀ {l : List (Nat × Operand)}, (∀ y ∈ l, ev e' y.2 = rn j (ev e y.2)) → evParts e' l = rnP j (evParts e l)
 | [], _ => rfl
 | (n, u) :: l, S => by
  simp only [evParts, rnP, List.map_cons]
  rw [S (n, u) List.mem_cons_self, parts_rn fun y hy => S y (List.mem_cons_of_mem _ hy)]
  rfl
theorem opt_rn {e e' : Env} {o : Option Operand} (h : ∀ u, o = some u → ev e' u = rn j (ev e u)) : o.map (ev e') = (o.map (ev e)).map (rn j) := by
 cases o with
 | none => rfl
 | some u => simp only [Option.map_some, h u rfl]
def ZRn (j : Nat → Nat) (x : X) : Prop := ∀ t i, x.tt.get t = some i → i.zero.map (rn j) = i.zero ∧ rn j i.zv = i.zv
theorem lenP_flat {i : TI} {u w : V} (h : lenP i u = some w) : lenP i (rn j u) = some w ∧ rn j w = w := by
 unfold lenP at h
 split at h <;> first | (cases h; done) | (rename_i hk; cases h; exact ⟨by simp only [lenP, rn, hk], rfl⟩)
theorem capP_flat {i : TI} {u w : V} (h : capP i u = some w) : capP i (rn j u) = some w ∧ rn j w = w := by
 unfold capP at h
 split at h <;> first | (cases h; done) | (rename_i hk; cases h; exact ⟨by simp only [capP, rn, hk], rfl⟩)
theorem builtinP_rn (J : Jn j) {e e' : Env} {c : Call} {w : V} (S : Same j e e' (Op.call c).operands.toList) (h : builtinP x e c = some w) : builtinP x e' c = some (rn j w) := by
 unfold builtinP at h ⊢
 split at h
 ·rename_i b hc
  try simp only [hc]
  split at h
  ·split at h
   ·rename_i u t ha ht
    have hu := S u (by simp [Op.operands, Call.operands, ha, hc])
    try simp only [ha, ht]
    obtain ⟨i, hi, h⟩ := ti_ex h
    rw [ti_some _ hi, hu, (lenP_flat h).1, (lenP_flat (j := j) h).2]
   ·cases h
  ·split at h
   ·rename_i u t ha ht
    have hu := S u (by simp [Op.operands, Call.operands, ha, hc])
    try simp only [ha, ht]
    obtain ⟨i, hi, h⟩ := ti_ex h
    rw [ti_some _ hi, hu, (capP_flat h).1, (capP_flat (j := j) h).2]
   ·cases h
  ·split at h
   ·rename_i u v ha
    have hu := S u (by simp [Op.operands, Call.operands, ha, hc])
    have hv := S v (by simp [Op.operands, Call.operands, ha, hc])
    simp only [ha, hu, hv]
    unfold minP at h
    split at h
    ·rename_i e1 e2; cases h; simp only [e1, e2, rn, minP]
    ·cases h
   ·cases h
  ·split at h
   ·rename_i u v ha
    have hu := S u (by simp [Op.operands, Call.operands, ha, hc])
    have hv := S v (by simp [Op.operands, Call.operands, ha, hc])
    simp only [ha, hu, hv]
    unfold maxP at h
    split at h
    ·rename_i e1 e2; cases h; simp only [e1, e2, rn, maxP]
    ·cases h
   ·cases h
  ·split at h
   ·rename_i u ha
    have hu := S u (by simp [Op.operands, Call.operands, ha, hc])
    simp only [ha, hu]
    split at h
    ·rename_i r o n cap b e1
     simp only [e1, rn]
     cases hb : Nat.blt 0 cap with
     | false => rw [hb] at h; cases h
     | true => rw [hb] at h; cases h; rfl
    ·rename_i e1
     simp only [e1, rn]
     cases h; rfl
    ·cases h
   ·cases h
  ·cases h
 ·cases h
end
section
variable {x : X} {j : Nat → Nat}
theorem opP_rn (J : Jn j) (Z : ZRn j x) {e e' : Env} {o : Oper} {v : V} (S : Same j e e' o.op.operands.toList) (h : opP x e o = some v) : opP x e' o = some (rn j v) := by
 unfold opP at h ⊢
 cases ho : o.op <;> simp only [ho] at h S ⊢ <;> try (cases h; done)
 case move u => cases h; rw [S u (by simp [Op.operands])]
 case assign u => cases h; rw [S u (by simp [Op.operands])]
 case pick c u w =>
  rw [S c (by simp [Op.operands])]
  cases hc : ev e c <;> simp only [hc, reduceCtorEq] at h
  rename_i b
  cases b
  ·cases h; simp only [rn]; rw [S w (by simp [Op.operands])]
  ·cases h; simp only [rn]; rw [S u (by simp [Op.operands])]
 case build t ps =>
  have hp : evParts e' ps.toList = rnP j (evParts e ps.toList) := parts_rn fun y hy => S y.2 (by simp only [Op.operands, List.mem_map]; exact ⟨y, hy, rfl⟩)
  obtain ⟨i, hi, h⟩ := ti_ex h
  simp only [ti_some _ hi, hp]
  have hz := (Z _ _ hi).1
  split at h
  ·have hk := ‹i.k = _›
   try simp only [hk]
   split at h
   ·rename_i l hl
    rw [placesSt_rn hl]
    split at h
    ·rename_i cs hcs
     cases h
     have := fillA_rn (j := j) hcs
     rw [hz] at this
     simp only [this, rn, rns_map]
    ·cases h
   ·cases h
  ·have hk := ‹i.k = _›
   try simp only [hk]
   obtain ⟨q, hq, h⟩ := ti_ex h
   simp only [ti_some _ hq]
   split at h
   ·rename_i l hl
    rw [placesArr_rn hl]
    split at h
    ·rename_i cs hcs
     cases h
     have := fillA_rn (j := j) hcs
     rw [hz] at this
     simp only [this, rn, rns_map]
    ·cases h
   ·cases h
  ·cases h
 case nilCheck u =>
  rw [S u (by simp [Op.operands])]
  cases hu : ev e u <;> simp only [hu, reduceCtorEq] at h <;> (cases h; rfl)
 case binOp op t u w d =>
  rw [S u (by simp [Op.operands]), S w (by simp [Op.operands])]
  exact binC_rn J h
 case unOp op t u =>
  rw [S u (by simp [Op.operands])]
  exact un_rn h
 case makeInterface t u =>
  obtain ⟨i, hi, h⟩ := ti_ex h
  simp only [ti_some _ hi, S u (by simp [Op.operands])]
  split at h
  ·cases h
  ·rename_i hk
   cases h
   cases hk2 : i.k <;> first | rfl | exact absurd hk2 (hk _)
 case makeFunc fn first cs =>
  unfold mkF at h ⊢
  split at h
  ·split at h
   ·rename_i f _ hf
    have hc : Same j e e' cs.toList := fun u hu => S u (by simp only [Op.operands]; simpa using Or.inr hu)
    cases h
    simp only [hf, evs_rn hc, rn, rns_map]
   ·cases h
  ·cases h
 case slice t u lo hi mx =>
  rw [S u (by simp [Op.operands]), opt_rn (o := lo) (fun y hy => S y (by subst hy; simp [Op.operands])), opt_rn (o := hi) (fun y hy => S y (by subst hy; simp [Op.operands])), opt_rn (o := mx) (fun y hy => S y (by subst hy; simp [Op.operands]))]
  exact slc_rn h
 case fieldAddr s u f =>
  obtain ⟨i, hi, h⟩ := ti_ex h
  simp only [ti_some _ hi, S u (by simp [Op.operands])]
  split at h
  ·have hk := ‹i.k = _›
   try simp only [hk]
   split at h
   ·rename_i off t sz hf
    try simp only [hf]
    cases hz : Nat.beq sz 0 with
    | true => rw [hz] at h; cases h
    | false =>
     rw [hz] at h
     simp only [cond_false] at h ⊢
     cases hu : ev e u <;> simp only [hu, reduceCtorEq] at h
     cases h; rfl
   ·cases h
  ·cases h
 case field t u f =>
  obtain ⟨i, hi, h⟩ := ti_ex h
  simp only [ti_some _ hi, S u (by simp [Op.operands])]
  split at h
  ·have hk := ‹i.k = _›
   try simp only [hk]
   split at h
   ·rename_i off t' sz hf
    try simp only [hf]
    cases hz : Nat.beq sz 0 with
    | true => rw [hz] at h; cases h
    | false =>
     rw [hz] at h
     simp only [cond_false] at h ⊢
     obtain ⟨q, hq, h⟩ := ti_ex h
     simp only [ti_some _ hq]
     cases hu : ev e u <;> simp only [hu, reduceCtorEq] at h
     simp only [rn, rns_map]
     split at h
     ·rename_i cs hcs
      rw [sub_rn hcs]
      exact vOfCells_rn h
     ·cases h
   ·cases h
  ·cases h
 case indexAddr t u ix =>
  obtain ⟨i, hi, h⟩ := ti_ex h
  simp only [ti_some _ hi, S u (by simp [Op.operands]), S ix (by simp [Op.operands])]
  split at h
  ·rename_i n hn
   try simp only [hn, rn]
   split at h
   ·have hk := ‹i.k = _›
    have hu := ‹ev e u = _›
    simp only [hk, hu, rn]
    rename_i len el r o _ _
    cases hb : Nat.blt n len with
    | false => rw [hb] at h; cases h
    | true =>
     rw [hb] at h
     simp only [cond_true] at h ⊢
     obtain ⟨q, hq, h⟩ := ti_ex h
     simp only [ti_some _ hq]
     cases h; rfl
   ·have hk := ‹i.k = _›
    have hu := ‹ev e u = _›
    simp only [hk, hu, rn]
    rename_i el r o len _ _ _ _
    cases hb : Nat.blt n len with
    | false => rw [hb] at h; cases h
    | true =>
     rw [hb] at h
     simp only [cond_true] at h ⊢
     obtain ⟨q, hq, h⟩ := ti_ex h
     simp only [ti_some _ hq]
     cases h; rfl
   ·cases h
  ·cases h
 case index t u ix =>
  obtain ⟨i, hi, h⟩ := ti_ex h
  simp only [ti_some _ hi, S u (by simp [Op.operands]), S ix (by simp [Op.operands])]
  split at h
  ·rename_i n hn
   try simp only [hn, rn]
   split at h
   ·have hk := ‹i.k = _›
    have hu := ‹ev e u = _›
    simp only [hk, hu, rn, rns_map]
    rename_i len el cs _ _
    cases hb : Nat.blt n len with
    | false => rw [hb] at h; cases h
    | true =>
     rw [hb] at h
     simp only [cond_true] at h ⊢
     obtain ⟨q, hq, h⟩ := ti_ex h
     simp only [ti_some _ hq]
     split at h
     ·rename_i vs hvs
      rw [sub_rn hvs]
      exact vOfCells_rn h
     ·cases h
   ·have hk := ‹i.k = _›
    have hu := ‹ev e u = _›
    simp only [hk, hu, rn]
    split at h
    ·rename_i c hc
     cases h
     simp only [hc, rn]
    ·cases h
   ·cases h
  ·cases h
 case extract u ix =>
  rw [S u (by simp [Op.operands])]
  cases hu : ev e u <;> simp only [hu, reduceCtorEq] at h
  simp only [rn, rns_map, List.getElem?_map, h, Option.map_some]
 case convert s d u =>
  obtain ⟨i, hi, h⟩ := ti_ex h
  obtain ⟨q, hq, h⟩ := ti_ex h
  simp only [ti_some _ hi, ti_some _ hq, S u (by simp [Op.operands])]
  split at h
  ·have hk := ‹q.k = _›
   have hu := ‹ev e u = _›
   simp only [hk, hu, rn]
   cases h; rfl
  ·have hk := ‹q.k = _›
   have hu := ‹ev e u = _›
   simp only [hk, hu, rn]
   cases h; rfl
  ·have hk := ‹q.k = _›
   have hu := ‹ev e u = _›
   simp only [hk, hu, rn]
   split at h
   ·have hk2 := ‹i.k = _›
    try simp only [hk2]
    cases h; rfl
   ·cases h
  ·cases h
 case call c => exact builtinP_rn J S h
structure MRn (j : Nat → Nat) (h g : H) : Prop where
 nx : ∀ k, j (h.next + k) = g.next + k
 mem : ∀ r b, h.mem.get r = some b → g.mem.get (j r) = some (rnB j b)
theorem MRn.next {h g : H} (M : MRn j h g) : j h.next = g.next := M.nx 0
structure RFr (j : Nat → Nat) (h g h' g' : H) : Prop where
 m : MRn j h' g'
 le : h.next ≤ h'.next
 le' : g.next ≤ g'.next
 no : ∀ r, r < h.next → h.mem.get r = none → h'.mem.get r = none
 keep : ∀ q, q < g.next → (∀ r, j r = q → h.mem.get r = none) → g'.mem.get q = g.mem.get q
theorem RFr.refl {h g : H} (M : MRn j h g) : RFr j h g h g := ⟨M, Nat.le_refl _, Nat.le_refl _, fun _ _ e => e, fun _ _ _ => rfl⟩
theorem RFr.trans (J : Jn j) {a a' b b' c c' : H} (M : MRn j a a') (u : RFr j a a' b b') (w : RFr j b b' c c') : RFr j a a' c c' := by
 refine ⟨w.m, Nat.le_trans u.le w.le, Nat.le_trans u.le' w.le', fun r hr e => w.no r (Nat.lt_of_lt_of_le hr u.le) (u.no r hr e), fun q hq e => ?_⟩
 rw [w.keep q (Nat.lt_of_lt_of_le hq u.le') fun r hr => ?_, u.keep q hq e]
 by_cases h1 : r < a.next
 ·exact u.no r h1 (e r hr)
 ·have := M.nx (r - a.next)
  rw [show a.next + (r - a.next) = r by omega, hr] at this
  omega
theorem rnE_find (J : Jn j) {i : TI} {k : V} : ∀ {es : List (V × V × Nat)} {n : Nat} {r : Option (Nat × V)}, findKey i k es n = some r → findKey i (rn j k) (rnE j es) n = some (r.map fun p => (p.1, rn j p.2))
 | [], n, r, h => by
  simp only [findKey] at h
  split at h
  ·rename_i b hb
   cases h
   show findKey i (rn j k) [] n = _
   simp only [findKey, eqF_rn hb]; rfl
  ·cases h
 | (k', v, c) :: es, n, r, h => by
  simp only [findKey] at h
  show findKey i (rn j k) ((rn j k', rn j v, c) :: rnE j es) n = _
  simp only [findKey]
  split at h
  ·rename_i hb
   cases h
   rw [eqF_rn hb]; rfl
  ·rename_i hb
   rw [eqF_rn hb]
   exact rnE_find J h
  ·cases h
theorem entries_rn {g g' : Nat → Option B} (hg : ∀ r b, g r = some b → g' (j r) = some (rnB j b)) {v : V} {es : List (V × V × Nat)} (h : entries g v = some es) : entries g' (rn j v) = some (rnE j es) := by
 cases v <;> simp only [entries, rn, reduceCtorEq] at h ⊢
 ·cases h; rfl
 ·split at h
  ·rename_i hr
   cases h
   rw [hg _ _ hr]; rfl
  ·cases h
theorem loadB_rn {g g' : Nat → Option B} (hg : ∀ r b, g r = some b → g' (j r) = some (rnB j b)) {i : TI} {r o : Nat} {v : V} (h : loadB i g r o = some v) : loadB i g' (j r) o = some (rn j v) := by
 unfold loadB at h ⊢
 split at h
 ·rename_i l t w hr
  rw [hg _ _ hr]
  simp only [rnB]
  split at h
  ·rename_i vs hvs
   rw [sub_rn hvs]
   exact vOfCells_rn h
  ·cases h
 ·cases h
theorem bytesOf_rn : ∀ {l : List V} {r : List UInt8}, bytesOf l = some r → l.map (rn j) = l
 | [], _, _ => rfl
 | v :: l, r, h => by
  unfold bytesOf at h
  split at h
  ·rename_i e; cases e
  ·rename_i n l' e
   cases e
   split at h
   ·rename_i r' h1
    rw [List.map_cons, bytesOf_rn h1]; rfl
   ·cases h
  ·cases h
end
section
variable {x : X} {j : Nat → Nat}
theorem bytes_rn (l : List UInt8) : (l.map fun c => V.i .u8 c.toNat).map (rn j) = l.map fun c => V.i .u8 c.toNat := by
 rw [List.map_map]; rfl
theorem bif_ex {α : Type} {b : Bool} {y v : α} (h : (bif b then some y else none) = some v) : b = true ∧ y = v := by
 cases b with
 | false => cases h
 | true => exact ⟨rfl, Option.some.inj h⟩
theorem rnE_len (es : List (V × V × Nat)) : (rnE j es).length = es.length := by simp only [rnE, List.length_map]
theorem builtinR_rn {g g' : Nat → Option B} (hg : ∀ r b, g r = some b → g' (j r) = some (rnB j b)) {e e' : Env} {c : Call} {w : V} (S : Same j e e' (Op.call c).operands.toList) (h : builtinR x e g c = some w) : builtinR x e' g' c = some (rn j w) := by
 unfold builtinR at h ⊢
 split at h
 ·rename_i b hc
  try simp only [hc]
  split at h
  ·split at h
   ·rename_i u t ha ht
    have hu := S u (by simp [Op.operands, Call.operands, ha, hc])
    try simp only [ha, ht]
    obtain ⟨i, hi, h⟩ := ti_ex h
    rw [ti_some _ hi, hu]
    split at h
    ·have hk := ‹i.k = _›
     try simp only [hk]
     split at h
     ·rename_i es he
      rw [entries_rn hg he]
      cases h
      simp only [rnE_len, rn]
     ·cases h
    ·cases h
   ·cases h
  ·cases h
 ·cases h
theorem opR_rn (J : Jn j) (Z : ZRn j x) {g g' : Nat → Option B} (hg : ∀ r b, g r = some b → g' (j r) = some (rnB j b)) {e e' : Env} {o : Oper} {v : V} (S : Same j e e' o.op.operands.toList) (h : opR x e g o = some v) : opR x e' g' o = some (rn j v) := by
 unfold opR at h ⊢
 cases ho : o.op <;> simp only [ho] at h S ⊢ <;> try (cases h; done)
 case load t u =>
  obtain ⟨i, hi, h⟩ := ti_ex h
  simp only [ti_some _ hi, S u (by simp [Op.operands])]
  cases hu : ev e u <;> simp only [hu, reduceCtorEq] at h
  exact loadB_rn hg h
 case lookup t m ix ok =>
  obtain ⟨i, hi, h⟩ := ti_ex h
  simp only [ti_some _ hi, S m (by simp [Op.operands]), S ix (by simp [Op.operands])]
  split at h
  ·have hk := ‹i.k = _›
   try simp only [hk]
   obtain ⟨ki, hki, h⟩ := ti_ex h
   simp only [ti_some _ hki]
   obtain ⟨ei, hei, h⟩ := ti_ex h
   simp only [ti_some _ hei]
   split at h
   ·rename_i es he
    rw [entries_rn hg he]
    try simp only
    split at h
    ·rename_i n w hf
     rw [rnE_find J hf]
     cases h
     cases ok <;> simp [rn, rns]
    ·rename_i hf
     rw [rnE_find J hf]
     cases h
     have hz := (Z _ _ hei).2
     cases ok <;> simp [rn, rns, hz]
    ·cases h
   ·cases h
  ·cases h
 case convert s d u =>
  obtain ⟨i, hi, h⟩ := ti_ex h
  obtain ⟨q, hq, h⟩ := ti_ex h
  simp only [ti_some _ hi, ti_some _ hq, S u (by simp [Op.operands])]
  have fin : ∀ {el : TypeId}, (ti x el fun q => match q.k with
    | .int .u8 => some (V.s [])
    | _ => none) = some v → (ti x el fun q => match q.k with
    | .int .u8 => some (V.s [])
    | _ => none) = some (rn j v) := by
   intro el h
   obtain ⟨q, hq, h⟩ := ti_ex h
   simp only [ti_some _ hq]
   split at h
   ·cases h; simp only [*, rn]
   ·cases h
  split at h
  ·simp only [‹i.k = _›, ‹q.k = _›, ‹ev e u = _›, rn]
   exact fin h
  ·simp only [‹i.k = _›, ‹q.k = _›, ‹ev e u = _›, rn]
   exact fin h
  ·simp only [‹i.k = _›, ‹q.k = _›, ‹ev e u = _›, rn]
   exact fin h
  ·simp only [‹i.k = _›, ‹q.k = _›, ‹ev e u = _›, rn]
   obtain ⟨z, hz, h⟩ := ti_ex h
   simp only [ti_some _ hz]
   split at h
   ·rename_i l t w hzk hr
    simp only [hzk, hg _ _ hr, rnB]
    split at h
    ·rename_i vs hvs
     rw [sub_rn hvs]
     try simp only
     split at h
     ·rename_i bs hbs
      rw [bytesOf_rn hbs]
      simp only [hbs]
      cases h; rfl
     ·cases h
    ·cases h
   ·cases h
  ·simp only [‹i.k = _›, ‹q.k = _›, ‹ev e u = _›, rn]
   obtain ⟨z, hz, h⟩ := ti_ex h
   simp only [ti_some _ hz]
   split at h
   ·rename_i l t w hzk hr
    simp only [hzk, hg _ _ hr, rnB]
    cases hb : (w && Nat.beq s d) with
    | false => rw [hb] at h; cases h
    | true => rw [hb] at h; cases h; rfl
   ·cases h
  ·simp only [‹i.k = _›, ‹q.k = _›, ‹ev e u = _›, rn]
   cases h; rfl
  ·simp only [‹i.k = _›, ‹q.k = _›, ‹ev e u = _›, rn]
   obtain ⟨z, hz, h⟩ := ti_ex h
   simp only [ti_some _ hz]
   split at h
   ·rename_i l t w hr
    simp only [hg _ _ hr, rnB, List.length_map]
    obtain ⟨hb, rfl⟩ := bif_ex h
    simp only [hb, cond_true, rn]
   ·cases h
  ·simp only [‹i.k = _›, ‹q.k = _›, ‹ev e u = _›, rn]
   cases h; rfl
  ·simp only [‹i.k = _›, ‹q.k = _›, ‹ev e u = _›, rn]
   obtain ⟨z, hz, h⟩ := ti_ex h
   simp only [ti_some _ hz]
   split at h
   ·rename_i l ty w hr
    simp only [hg _ _ hr, rnB, List.length_map]
    obtain ⟨hb, rfl⟩ := bif_ex h
    simp only [hb, cond_true, rn]
   ·cases h
  ·cases h
 case call c => exact builtinR_rn hg S h
theorem opN_rn (J : Jn j) (Z : ZRn j x) {r : Nat} {e e' : Env} {o : Oper} {b : B} {v : V} (S : Same j e e' o.op.operands.toList) (h : opN x e r o = some (b, v)) : opN x e' (j r) o = some (rnB j b, rn j v) := by
 unfold opN at h ⊢
 cases ho : o.op <;> simp only [ho] at h S ⊢ <;> try (cases h; done)
 case alloc t =>
  obtain ⟨i, hi, h⟩ := ti_ex h
  simp only [ti_some _ hi]
  cases h
  simp only [rnB, (Z _ _ hi).1, rn]
 case box t u =>
  cases h
  simp only [S u (by simp [Op.operands]), cells_rn, rnB, rn]
 case buildSlice t n ps =>
  have hp : evParts e' ps.toList = rnP j (evParts e ps.toList) := parts_rn fun y hy => S y.2 (by simp only [Op.operands, List.mem_map]; exact ⟨y, hy, rfl⟩)
  obtain ⟨i, hi, h⟩ := ti_ex h
  simp only [ti_some _ hi, hp]
  split at h
  ·try simp only [‹i.k = _›]
   obtain ⟨q, hq, h⟩ := ti_ex h
   simp only [ti_some _ hq]
   cases hb : Nat.ble (n * q.sz) 16777216 with
   | false => rw [hb] at h; cases h
   | true =>
    rw [hb] at h
    simp only [cond_true] at h ⊢
    split at h
    ·rename_i l hl
     rw [placesArr_rn hl]
     try simp only
     split at h
     ·rename_i cs hcs
      cases h
      have := fillA_rn (j := j) hcs
      rw [repl_rn _ (Z _ _ hq).1] at this
      simp only [this, rnB, rn]
     ·cases h
    ·cases h
  ·cases h
 case makeSlice t u w =>
  obtain ⟨i, hi, h⟩ := ti_ex h
  simp only [ti_some _ hi, S u (by simp [Op.operands]), S w (by simp [Op.operands])]
  split at h
  ·simp only [‹i.k = _›, ‹ev e u = _›, ‹ev e w = _›, rn]
   obtain ⟨q, hq, h⟩ := ti_ex h
   simp only [ti_some _ hq]
   obtain ⟨hb, h⟩ := bif_ex h
   cases h
   simp only [hb, cond_true, rnB, repl_rn _ (Z _ _ hq).1, rn]
  ·cases h
 case makeMap t r0 =>
  cases r0 with
  | some r0 => cases h
  | none =>
   simp only at h ⊢
   obtain ⟨i, hi, h⟩ := ti_ex h
   simp only [ti_some _ hi]
   split at h
   ·try simp only [‹i.k = _›]
    cases h; rfl
   ·cases h
 case convert s d u =>
  obtain ⟨i, hi, h⟩ := ti_ex h
  obtain ⟨q, hq, h⟩ := ti_ex h
  simp only [ti_some _ hi, ti_some _ hq, S u (by simp [Op.operands])]
  split at h
  ·simp only [‹i.k = _›, ‹q.k = _›, ‹ev e u = _›, rn]
   obtain ⟨z, hz, h⟩ := ti_ex h
   simp only [ti_some _ hz]
   split at h
   ·rename_i hzk
    try simp only [hzk]
    cases hb : Nat.beq z.sz 1 with
    | false => rw [hb] at h; cases h
    | true =>
     rw [hb] at h
     simp only [cond_true] at h ⊢
     cases h
     simp only [rnB, bytes_rn, rn]
   ·cases h
  ·cases h
 case range t u =>
  obtain ⟨i, hi, h⟩ := ti_ex h
  simp only [ti_some _ hi, S u (by simp [Op.operands])]
  split at h
  ·simp only [‹i.k = _›, ‹ev e u = _›, rn]
   cases h; rfl
  ·cases h
end
section
variable {x : X} {j : Nat → Nat}
theorem r_put (J : Jn j) {h g : H} (M : MRn j h g) {r : Nat} {b0 : B} (hr : h.mem.get r = some b0) (b : Option B) : RFr j h g ⟨h.next, h.mem.put r b⟩ ⟨g.next, g.mem.put (j r) (b.map (rnB j))⟩ := by
 refine ⟨⟨M.nx, fun q c hq => ?_⟩, Nat.le_refl _, Nat.le_refl _, fun q _ e => ?_, fun q _ e => ?_⟩
 ·simp only [T.get_put] at hq ⊢
  by_cases h1 : r = q
  ·subst h1
   rw [if_pos rfl] at hq ⊢
   rw [hq]; rfl
  ·rw [if_neg h1] at hq
   rw [if_neg fun e => h1 (J.inj e)]
   exact M.mem _ _ hq
 ·simp only [T.get_put]
  rw [if_neg fun e' => by subst e'; rw [hr] at e; cases e]
  exact e
 ·simp only [T.get_put]
  rw [if_neg fun e' => by have := e r e'; rw [hr] at this; cases this]
theorem r_new (J : Jn j) {h g : H} (M : MRn j h g) (b : B) : RFr j h g ⟨h.next + 1, h.mem.put h.next (some b)⟩ ⟨g.next + 1, g.mem.put g.next (some (rnB j b))⟩ := by
 refine ⟨⟨fun k => ?_, fun q c hq => ?_⟩, Nat.le_succ _, Nat.le_succ _, fun q hq e => ?_, fun q hq e => ?_⟩
 ·have := M.nx (1 + k)
  rw [show h.next + (1 + k) = h.next + 1 + k by omega, show g.next + (1 + k) = g.next + 1 + k by omega] at this
  exact this
 ·simp only [T.get_put] at hq ⊢
  rw [← M.next]
  by_cases h1 : h.next = q
  ·subst h1
   rw [if_pos rfl] at hq ⊢
   cases hq; rfl
  ·rw [if_neg h1] at hq
   rw [if_neg fun e => h1 (J.inj e)]
   exact M.mem _ _ hq
 ·simp only [T.get_put]
  rw [if_neg (by omega)]
  exact e
 ·simp only [T.get_put]
  rw [if_neg (by omega)]
theorem storeB_rn (J : Jn j) {h g h' : H} (M : MRn j h g) {r o : Nat} {vs : List V} (hh : storeB h r o vs = some h') : ∃ g', storeB g (j r) o (vs.map (rn j)) = some g' ∧ RFr j h g h' g' := by
 unfold storeB at hh ⊢
 split at hh
 ·rename_i l ty own hg
  rw [M.mem _ _ hg]
  simp only [rnB, allOne_rn]
  obtain ⟨hb, hh⟩ : (own && vs.all oneV) = true ∧ (match overAt l o vs with
   | some l' => T.seq (h.mem.put r (some (.c l' ty true))) fun m => some (⟨h.next, m⟩ : H)
   | none => none) = some h' := by
   cases hb : (own && vs.all oneV) with
   | false => rw [hb] at hh; cases hh
   | true => rw [hb] at hh; exact ⟨rfl, hh⟩
  simp only [hb, cond_true]
  split at hh
  ·rename_i l' hl
   rw [overAt_rn hl]
   simp only [T.seq_eq, Option.some.injEq] at hh ⊢
   subst hh
   exact ⟨_, rfl, r_put J M hg (some (.c l' ty true))⟩
  ·cases hh
 ·cases hh
theorem fcells_rn {h g : H} (M : MRn j h g) {q : TI} {n : Nat} {v : V} {cs : List V} (hh : fcells h q n v = some cs) : fcells g q n (rn j v) = some (cs.map (rn j)) := by
 cases v <;> simp only [fcells, rn, reduceCtorEq] at hh ⊢
 ·cases hh; rw [bytes_rn]
 ·obtain ⟨hb, rfl⟩ := bif_ex hh; simp only [hb, cond_true, List.map_nil]
 ·split at hh
  ·rename_i hr
   rw [M.mem _ _ hr]
   exact sub_rn hh
  ·cases hh
 ·obtain ⟨hb, rfl⟩ := bif_ex hh; simp only [hb, cond_true, List.map_nil]
 ·obtain ⟨hb, rfl⟩ := bif_ex hh; simp only [hb, cond_true, List.map_nil]
 ·obtain ⟨hb, rfl⟩ := bif_ex hh; simp only [hb, cond_true, List.map_nil]
theorem bif_ex2 {α : Type} {b : Bool} {y : Option α} {v : α} (h : (bif b then y else none) = some v) : b = true ∧ y = some v := by
 cases b with
 | false => cases h
 | true => exact ⟨rfl, h⟩
theorem appA_rn (J : Jn j) {h g h' : H} (M : MRn j h g) {el : TypeId} {q : TI} {u v : V} {n : Nat} {cs : List V} (hh : appA h el q u n cs = some (v, h')) : ∃ g', appA g el q (rn j u) n (cs.map (rn j)) = some (rn j v, g') ∧ RFr j h g h' g' := by
 unfold appA at hh ⊢
 cases hn : Nat.beq n 0 with
 | true =>
  rw [hn] at hh
  simp only [cond_true] at hh ⊢
  cases u <;> simp only [rn, reduceCtorEq] at hh ⊢
  ·cases hh; exact ⟨g, rfl, RFr.refl M⟩
  ·obtain ⟨hb, hh⟩ := bif_ex hh
   cases hh
   exact ⟨g, by simp only [hb, cond_true, rn], RFr.refl M⟩
  ·cases hh; exact ⟨g, rfl, RFr.refl M⟩
  ·cases hh; exact ⟨g, rfl, RFr.refl M⟩
 | false =>
  rw [hn] at hh
  simp only [cond_false] at hh ⊢
  have new : ∀ {b : Bool}, (bif b then newB h (.c cs el true) fun h' => some (V.sl h.next 0 n n true, h') else none) = some (v, h') → ∃ g', (bif b then newB g (.c (cs.map (rn j)) el true) fun h' => some (V.sl g.next 0 n n true, h') else none) = some (rn j v, g') ∧ RFr j h g h' g' := by
   intro b hh
   obtain ⟨rfl, hh⟩ := bif_ex2 hh
   simp only [newB_eq, Option.some.injEq, Prod.mk.injEq, cond_true] at hh ⊢
   obtain ⟨rfl, rfl⟩ := hh
   exact ⟨_, ⟨by simp only [rn, M.next], rfl⟩, r_new J M (.c cs el true)⟩
  cases u <;> simp only [rn, reduceCtorEq] at hh ⊢
  ·exact new hh
  ·rename_i r o len cap e
   cases hroom : (Nat.ble (len + n) cap && Nat.ble (n * q.by_) most) with
   | true =>
    rw [hroom] at hh
    simp only [cond_true] at hh ⊢
    split at hh
    ·rename_i h1 hst
     cases hh
     obtain ⟨g1, e1, e2⟩ := storeB_rn J M hst
     exact ⟨g1, by rw [e1]; rfl, e2⟩
    ·cases hh
   | false =>
    rw [hroom] at hh
    simp only [cond_false] at hh ⊢
    split at hh
    ·rename_i l ty own hg
     rw [M.mem _ _ hg]
     simp only [rnB]
     split at hh
     ·rename_i old hold
      simp only [sub_rn hold]
      obtain ⟨hsz, hh⟩ := bif_ex2 hh
      simp only [hsz, cond_true]
      cases e with
      | true =>
       simp only [cond_true] at hh ⊢
       obtain ⟨hc, hh⟩ := bif_ex2 hh
       simp only [List.length_map, allOne_rn, hc, cond_true]
       simp only [T.seq_eq, newB_eq, Option.some.injEq, Prod.mk.injEq] at hh ⊢
       obtain ⟨rfl, rfl⟩ := hh
       have f1 := r_put J M hg none
       have f2 := r_new J f1.m (.c (old ++ cs) el true)
       exact ⟨_, ⟨by simp only [rn, M.next], rfl⟩, by rw [← List.map_append]; exact f1.trans J M f2⟩
      | false =>
       simp only [cond_false, newB_eq, Option.some.injEq, Prod.mk.injEq] at hh ⊢
       obtain ⟨rfl, rfl⟩ := hh
       exact ⟨_, ⟨by simp only [rn, M.next], rfl⟩, by rw [← List.map_append]; exact r_new J M (.c (old ++ cs) el true)⟩
     ·cases hh
    ·cases hh
  ·rename_i r o' o
   split at hh
   ·rename_i l ty own hg
    rw [M.mem _ _ hg]
    simp only [rnB]
    obtain ⟨hc, hh⟩ := bif_ex2 hh
    simp only [List.length_map, allOne_rn, hc, cond_true]
    simp only [T.seq_eq, newB_eq, Option.some.injEq, Prod.mk.injEq] at hh ⊢
    obtain ⟨rfl, rfl⟩ := hh
    have f1 := r_put J M hg none
    have f2 := r_new J f1.m (.c cs el true)
    exact ⟨_, ⟨by simp only [rn, M.next], rfl⟩, f1.trans J M f2⟩
   ·cases hh
  ·exact new hh
theorem nthSet_rn (k v : V) : ∀ (es : List (V × V × Nat)) (n : Nat), rnE j (nthSet es n k v) = nthSet (rnE j es) n (rn j k) (rn j v)
 | [], _ => rfl
 | _ :: _, 0 => rfl
 | e :: es, n + 1 => by
  show (_ :: rnE j (nthSet es n k v)) = (_ :: nthSet (rnE j es) n (rn j k) (rn j v))
  rw [nthSet_rn k v es n]
theorem nthDel_rn : ∀ (es : List (V × V × Nat)) (n : Nat), rnE j (nthDel es n) = nthDel (rnE j es) n
 | [], _ => rfl
 | _ :: _, 0 => rfl
 | e :: es, n + 1 => by
  show (_ :: rnE j (nthDel es n)) = (_ :: nthDel (rnE j es) n)
  rw [nthDel_rn es n]
theorem opH_rn (J : Jn j) (Z : ZRn j x) {e e' : Env} {h g h' : H} (M : MRn j h g) {o : Oper} {v : V} (S : Same j e e' o.op.operands.toList) (hh : opH x e h o = some (v, h')) : ∃ g', opH x e' g o = some (rn j v, g') ∧ RFr j h g h' g' := by
 unfold opH at hh ⊢
 cases ho : o.op <;> simp only [ho] at hh S ⊢ <;> try (cases hh; done)
 case store t u w =>
  obtain ⟨i, hi, hh⟩ := ti_ex hh
  simp only [ti_some _ hi, S u (by simp [Op.operands]), S w (by simp [Op.operands])]
  cases hu : ev e u <;> simp only [hu, reduceCtorEq] at hh
  obtain ⟨hb, hh⟩ := bif_ex2 hh
  simp only [rn, len_cells, hb, cond_true]
  rw [cells_rn]
  split at hh
  ·rename_i h1 hst
   cases hh
   obtain ⟨g1, e1, e2⟩ := storeB_rn J M hst
   exact ⟨g1, by rw [e1]; rfl, e2⟩
  ·cases hh
 case mapUpdate t m k w =>
  obtain ⟨i, hi, hh⟩ := ti_ex hh
  simp only [ti_some _ hi, S m (by simp [Op.operands]), S k (by simp [Op.operands]), S w (by simp [Op.operands])]
  split at hh
  ·try simp only [‹i.k = _›]
   obtain ⟨ki, hki, hh⟩ := ti_ex hh
   simp only [ti_some _ hki]
   cases hm : ev e m <;> simp only [hm, reduceCtorEq] at hh
   simp only [rn]
   split at hh
   ·rename_i es c hg
    simp only [M.mem _ _ hg, rnB]
    split at hh
    ·rename_i n w' hf
     cases hh
     rw [rnE_find J hf]
     refine ⟨_, rfl, ?_⟩
     have := r_put J M hg (some (.mp (nthSet es n (ev e k) (ev e w)) c))
     simp only [Option.map_some, rnB, nthSet_rn] at this
     exact this
    ·rename_i hf
     cases hh
     rw [rnE_find J hf]
     refine ⟨_, rfl, ?_⟩
     have := r_put J M hg (some (.mp (es ++ [(ev e k, ev e w, c)]) (c + 1)))
     simp only [Option.map_some, rnB, rnE, List.map_append, List.map_cons, List.map_nil] at this
     exact this
    ·cases hh
   ·cases hh
  ·cases hh
 case next u b =>
  rw [S u (by simp [Op.operands])]
  unfold nextH at hh ⊢
  obtain ⟨rfl, hh⟩ := bif_ex2 hh
  simp only [cond_true]
  split at hh
  ·rename_i r hv
   simp only [hv, rn]
   split at hh
   ·rename_i st pos hg
    simp only [M.mem _ _ hg, rnB]
    cases hb : Nat.blt pos st.length with
    | false => rw [hb] at hh; cases hh; exact ⟨g, rfl, RFr.refl M⟩
    | true =>
     rw [hb] at hh
     simp only [cond_true, Option.some.injEq, Prod.mk.injEq] at hh ⊢
     obtain ⟨rfl, rfl⟩ := hh
     exact ⟨_, ⟨rfl, rfl⟩, r_put J M hg (some (.it st (pos + (Utf8.decode ⟨⟨st⟩⟩ pos).2)))⟩
   ·cases hh
  ·cases hh
 case call c =>
  unfold builtinH at hh ⊢
  split at hh
  ·rename_i b hb
   try simp only [hb]
   split at hh
   ·split at hh
    ·rename_i u w t t' ha ht
     have hu := S u (by simp [Op.operands, Call.operands, ha, hb])
     have hw := S w (by simp [Op.operands, Call.operands, ha, hb])
     try simp only [ha, ht]
     rw [hu, hw]
     unfold appendH at hh ⊢
     obtain ⟨i, hi, hh⟩ := ti_ex hh
     simp only [ti_some _ hi]
     split at hh
     ·rename_i el hk
      try simp only [hk]
      obtain ⟨q, hq, hh⟩ := ti_ex hh
      simp only [ti_some _ hq]
      obtain ⟨i', hi', hh⟩ := ti_ex hh
      simp only [ti_some _ hi']
      split at hh
      ·rename_i k1 k2 n hk1 hw1
       simp only [hk1, hw1, rn]
       obtain ⟨hb2, hh⟩ := bif_ex2 hh
       simp only [hb2, cond_true]
       have := appA_rn J M hh
       rw [repl_rn _ (Z _ _ hq).1] at this
       exact this
      ·cases hh
      ·have hne : ∀ k, i'.k = K.int k → False := by assumption
       split at hh
       ·rename_i n hn
        split at hh
        ·rename_i cs hcs
         have h3 := appA_rn J M hh
         obtain ⟨g2, e3, e4⟩ := h3
         refine ⟨g2, ?_, e4⟩
         have h5 : (match lenV (rn j (ev e w)) with
           | some n => match fcells g q n (rn j (ev e w)) with
            | some cs => appA g el q (rn j (ev e u)) n cs
            | none => none
           | none => none) = some (rn j v, g2) := by
          rw [lenV_rn, hn]
          simp only [fcells_rn M hcs]
          exact e3
         generalize i'.k = K0 at hne ⊢
         cases K0 <;> first
          | exact h5
          | exact (hne _ rfl).elim
        ·cases hh
       ·cases hh
     ·cases hh
    ·cases hh
   ·split at hh
    ·rename_i u w t ts ha ht
     have hu := S u (by simp [Op.operands, Call.operands, ha, hb])
     have hw := S w (by simp [Op.operands, Call.operands, ha, hb])
     try simp only [ha, ht]
     rw [hu, hw]
     unfold copyH at hh ⊢
     obtain ⟨i, hi, hh⟩ := ti_ex hh
     simp only [ti_some _ hi]
     split at hh
     ·rename_i el hk
      try simp only [hk]
      obtain ⟨q, hq, hh⟩ := ti_ex hh
      simp only [ti_some _ hq, lenV_rn]
      split at hh
      ·rename_i m n hm hn
       try simp only [hm, hn]
       split at hh
       ·rename_i cs hcs
        simp only [fcells_rn M hcs]
        cases hu1 : ev e u <;> simp only [hu1, reduceCtorEq] at hh <;> simp only [rn]
        ·cases hh; exact ⟨g, rfl, RFr.refl M⟩
        ·rename_i r o a b d
         cases hz : Nat.beq (min n m) 0 with
         | true => rw [hz] at hh; cases hh; exact ⟨g, rfl, RFr.refl M⟩
         | false =>
          rw [hz] at hh
          simp only [cond_false] at hh ⊢
          split at hh
          ·rename_i h1 hst
           cases hh
           obtain ⟨g1, e1, e2⟩ := storeB_rn J M hst
           exact ⟨g1, by rw [e1]; rfl, e2⟩
          ·cases hh
        ·cases hh; exact ⟨g, rfl, RFr.refl M⟩
        ·cases hh; exact ⟨g, rfl, RFr.refl M⟩
       ·cases hh
      ·cases hh
     ·cases hh
    ·cases hh
   ·split at hh
    ·rename_i u t ha ht
     have hu := S u (by simp [Op.operands, Call.operands, ha, hb])
     try simp only [ha, ht]
     rw [hu]
     unfold clearH at hh ⊢
     obtain ⟨i, hi, hh⟩ := ti_ex hh
     simp only [ti_some _ hi]
     split at hh
     ·cases hh; exact ⟨g, by simp [*, rn, undefV, rns], RFr.refl M⟩
     ·cases hh; exact ⟨g, by simp [*, rn, undefV, rns], RFr.refl M⟩
     ·cases hh; exact ⟨g, by simp [*, rn, undefV, rns], RFr.refl M⟩
     ·rename_i el r o n a b hk hv
      simp only [hk, hv, rn]
      cases hz : Nat.beq n 0 with
      | true => rw [hz] at hh; cases hh; exact ⟨g, rfl, RFr.refl M⟩
      | false =>
       rw [hz] at hh
       simp only [cond_false] at hh ⊢
       obtain ⟨q, hq, hh⟩ := ti_ex hh
       simp only [ti_some _ hq]
       split at hh
       ·rename_i h1 hst
        cases hh
        obtain ⟨g1, e1, e2⟩ := storeB_rn J M hst
        rw [repl_rn _ (Z _ _ hq).1] at e1
        exact ⟨g1, by rw [e1]; rfl, e2⟩
       ·cases hh
     ·cases hh
    ·cases hh
   ·split at hh
    ·rename_i m k t ts ha ht
     have hm := S m (by simp [Op.operands, Call.operands, ha, hb])
     have hk := S k (by simp [Op.operands, Call.operands, ha, hb])
     try simp only [ha, ht]
     rw [hm, hk]
     unfold deleteH at hh ⊢
     obtain ⟨i, hi, hh⟩ := ti_ex hh
     simp only [ti_some _ hi]
     split at hh
     ·rename_i kt et hk
      try simp only [hk]
      obtain ⟨ki, hki, hh⟩ := ti_ex hh
      simp only [ti_some _ hki]
      cases hm1 : ev e m <;> simp only [hm1, reduceCtorEq] at hh
      simp only [rn]
      split at hh
      ·rename_i es c hg
       simp only [M.mem _ _ hg, rnB]
       split at hh
       ·rename_i n w' hf
        cases hh
        rw [rnE_find J hf]
        refine ⟨_, rfl, ?_⟩
        have := r_put J M hg (some (.mp (nthDel es n) c))
        simp only [Option.map_some, rnB, nthDel_rn] at this
        exact this
       ·rename_i hf
        cases hh
        rw [rnE_find J hf]
        exact ⟨g, rfl, RFr.refl M⟩
       ·cases hh
      ·cases hh
     ·cases hh
    ·cases hh
   ·split at hh
    ·rename_i u n t t' ha ht
     have hu := S u (by simp [Op.operands, Call.operands, ha, hb])
     have hn := S n (by simp [Op.operands, Call.operands, ha, hb])
     try simp only [ha, ht]
     rw [hu, hn]
     unfold unsafeStrH at hh ⊢
     split at hh
     ·simp only [*, rn]; cases hh; exact ⟨g, rfl, RFr.refl M⟩
     ·simp only [*, rn]; cases hh; exact ⟨g, rfl, RFr.refl M⟩
     ·rename_i r k hk0 hu1 hn1
      obtain ⟨k, rfl⟩ : ∃ m, k = m + 1 := ⟨k - 1, by have : ¬ k = 0 := hk0; omega⟩
      simp only [hu1, hn1, rn]
      obtain ⟨i, hi, hh⟩ := ti_ex hh
      simp only [ti_some _ hi]
      split at hh
      ·rename_i el hk
       try simp only [hk]
       obtain ⟨q, hq, hh⟩ := ti_ex hh
       simp only [ti_some _ hq]
       split at hh
       ·rename_i l ty own hg
        try simp only [M.mem _ _ hg, rnB]
        obtain ⟨hb2, hh⟩ := bif_ex2 hh
        try simp only [hb2, cond_true]
        split at hh
        ·rename_i vs hvs
         try simp only [takeN_rn (j := j) _ hvs]
         split at hh
         ·rename_i bs hbs
          rw [bytesOf_rn hbs]
          try simp only [hbs]
          simp only [T.seq_eq, Option.some.injEq, Prod.mk.injEq] at hh ⊢
          obtain ⟨rfl, rfl⟩ := hh
          exact ⟨_, ⟨rfl, rfl⟩, r_put J M hg none⟩
         ·cases hh
        ·cases hh
       ·cases hh
      ·cases hh
     ·cases hh
    ·cases hh
   ·cases hh
  ·cases hh
end
section
variable {x : X} {j : Nat → Nat}
theorem MRn.lt (J : Jn j) {h g : H} (M : MRn j h g) (r : Nat) : Nat.blt (j r) g.next = Nat.blt r h.next := by
 by_cases hr : r < h.next
 ·have : j r < g.next := by
   rcases Nat.lt_or_ge (j r) g.next with h1 | h1
   ·exact h1
   ·have := M.nx (j r - g.next)
    rw [show g.next + (j r - g.next) = j r by omega] at this
    have := J.inj this
    omega
  rw [blt_of hr, blt_of this]
 ·have := M.nx (r - h.next)
  rw [show h.next + (r - h.next) = r by omega] at this
  rw [this, blt_no (by omega), blt_no (by omega)]
def CallRn (j : Nat → Nat) (call : FuncId → List V → H → Option (V × H)) : Prop := ∀ f args h v h' g, call f args h = some (v, h') → MRn j h g → ∃ g', call f (args.map (rn j)) g = some (rn j v, g') ∧ RFr j h g h' g'
variable {call : FuncId → List V → H → Option (V × H)}
theorem same_of (J : Jn j) {e e' : Env} (E : EvR j e e') {l : List Operand} (h : l.all opdOk = true) : Same j e e' l := fun u hu => ev_rn J E (List.all_eq_true.1 h u hu)
theorem f_rn {v : V} {f : FuncId} {cs : List V} (h : v = .f f cs) : rn j v = .f f (cs.map (rn j)) := by rw [h]; simp only [rn, rns_map]
theorem op1_rn (J : Jn j) (Z : ZRn j x) (C : CallRn j call) {e e' : Env} (E : EvR j e e') {h g h' : H} (M : MRn j h g) {o : Oper} {v : V} (ok : opdsOk o = true) (hh : op1 x call e h o = some (v, h')) :
  ∃ g', op1 x call e' g o = some (rn j v, g') ∧ RFr j h g h' g' ∧ (cls x o = .n → ∃ b, h'.mem.get h.next = some b ∧ g'.mem.get g.next = some (rnB j b)) := by
 have S := same_of J E ok
 unfold op1 at hh ⊢
 split at hh
 ·rename_i hc
  try simp only [hc]
  split at hh
  ·rename_i w hw
   cases hh
   exact ⟨g, by rw [opP_rn J Z S hw], RFr.refl M, (fun e => by cases e)⟩
  ·cases hh
 ·rename_i hc
  try simp only [hc]
  split at hh
  ·rename_i w hw
   cases hh
   exact ⟨g, by rw [opR_rn J Z M.mem S hw], RFr.refl M, (fun e => by cases e)⟩
  ·cases hh
 ·rename_i hc
  try simp only [hc]
  split at hh
  ·rename_i b w hw
   have := opN_rn J Z S hw
   rw [M.next] at this
   rw [this]
   simp only [newB_eq, Option.some.injEq, Prod.mk.injEq] at hh ⊢
   obtain ⟨rfl, rfl⟩ := hh
   exact ⟨_, ⟨rfl, rfl⟩, r_new J M b, fun _ => ⟨b, by rw [T.get_put, if_pos rfl], by rw [T.get_put, if_pos rfl]⟩⟩
  ·cases hh
 ·rename_i hc
  try simp only [hc]
  obtain ⟨g', e1, e2⟩ := opH_rn J Z M S hh
  exact ⟨g', e1, e2, (fun e => by cases e)⟩
 ·rename_i hc
  try simp only [hc]
  split at hh
  ·rename_i c ho
   rw [ho] at S
   split at hh
   ·rename_i f hf
    have hv := S f (by simp [Op.operands, Call.operands, hf])
    have ha : Same j e e' c.args.toList := fun u hu => S u (by simp [Op.operands, Call.operands, hf]; right; simpa using hu)
    split at hh
    ·rename_i fn caps hfn
     obtain ⟨g', e1, e2⟩ := C _ _ _ _ _ _ hh M
     rw [List.map_append] at e1
     refine ⟨g', ?_, e2, (fun e => by cases e)⟩
     rw [hv, f_rn hfn, evs_rn ha]
     exact e1
    ·cases hh
   ·cases hh
  ·cases hh
theorem yield_rn {e e' : Env} (E : EvR j e e') {ops : List Oper} {i : Nat} {w : Bool} (h : yieldA e ops i = some w) : yieldA e' ops i = some w := by
 unfold yieldA at h ⊢
 split at h
 ·rename_i o ho
  try simp only
  split at h
  ·rename_i d hd
   try simp only
   rw [E d]
   cases hv : gv e d <;> simp only [hv, reduceCtorEq] at h
   simp only [rn]; exact h
  ·cases h
 ·cases h
theorem yield_rn' {e e' : Env} (E : EvR j e e') {ops : List Oper} {i : Nat} : yieldA e' ops i = yieldA e ops i := by
 cases h : yieldA e ops i with
 | some w => exact yield_rn E h
 | none =>
  unfold yieldA at h ⊢
  split at h
  ·rename_i o ho
   try simp only
   split at h
   ·rename_i d hd
    try simp only
    rw [E d]
    cases hv : gv e d <;> simp only [hv, rn, reduceCtorEq] at h ⊢
   ·rfl
  ·rfl
theorem want_rn {e e' : Env} (E : EvR j e e') {ops : List Oper} {o : Oper} : wantA e' ops o = wantA e ops o := by
 unfold wantA
 split
 ·rfl
 ·rw [yield_rn' E]
theorem seqR_rn (J : Jn j) (Z : ZRn j x) (C : CallRn j call) {ops : List Oper} : ∀ (l : List Oper) {e e1 e' : Env} {h g h' : H}, l.all opdsOk = true → EvR j e e1 → MRn j h g → seqR x call ops l e h = some (e', h') → ∃ e1' g', seqR x call ops l e1 g = some (e1', g') ∧ EvR j e' e1' ∧ RFr j h g h' g'
 | [], e, e1, e', h, g, h', _, E, M, hh => by
  cases hh
  exact ⟨e1, g, rfl, E, RFr.refl M⟩
 | o :: l, e, e1, e', h, g, h', ok, E, M, hh => by
  simp only [List.all_cons, Bool.and_eq_true] at ok
  simp only [seqR] at hh ⊢
  rw [want_rn E]
  cases hw : wantA e ops o with
  | false =>
   rw [hw] at hh
   simp only [cond_false, T.seq_eq] at hh ⊢
   exact seqR_rn J Z C l ok.2 (E.putD o.dst undefV) M hh
  | true =>
   rw [hw] at hh
   simp only [cond_true] at hh ⊢
   split at hh
   ·rename_i v h1 h2
    obtain ⟨g1, e2, f1, _⟩ := op1_rn J Z C E M ok.1 h2
    rw [e2]
    simp only [fV_eq, T.seq_eq] at hh ⊢
    obtain ⟨e1', g', e3, E2, f2⟩ := seqR_rn J Z C l ok.2 (E.putD o.dst v) f1.m hh
    exact ⟨e1', g', e3, E2, f1.trans J M f2⟩
   ·cases hh
inductive RecsR (j : Nat → Nat) : List Rec → List Rec → Prop where
 | nil : RecsR j [] []
 | cons {i : Nat} {o : Oper} {e e' : Env} {v : V} {l m : List Rec} (ok : opdsOk o = true) (E : EvR j e e') (t : RecsR j l m) : RecsR j (⟨i, o, e, v⟩ :: l) (⟨i, o, e', rn j v⟩ :: m)
inductive HsR (j : Nat → Nat) : List (Nat × H) → List (Nat × H) → Prop where
 | nil : HsR j [] []
 | cons {i : Nat} {h g : H} {l m : List (Nat × H)} (s : MRn j h g) (t : HsR j l m) : HsR j ((i, h) :: l) ((i, g) :: m)
def TRn (j : Nat → Nat) (t u : T B) : Prop := ∀ r b, t.get r = some b → u.get (j r) = some (rnB j b)
theorem drawR_rn (J : Jn j) (Z : ZRn j x) (C : CallRn j call) {ops : List Oper} : ∀ (l : List Oper) {ix : Nat} {e e1 e' : Env} {h g h' : H} {en en1 en' : T B} {rs rs1 rs' : List Rec} {hs hs' gs : List (Nat × H)}, l.all opdsOk = true → EvR j e e1 → MRn j h g → TRn j en en1 → RecsR j rs rs1 → HsR j hs gs →
  drawR x call ops l ix e h en rs hs = some (e', h', en', rs', hs') →
  ∃ e1' g' en1' rs1' gs', drawR x call ops l ix e1 g en1 rs1 gs = some (e1', g', en1', rs1', gs') ∧ EvR j e' e1' ∧ RFr j h g h' g' ∧ TRn j en' en1' ∧ RecsR j rs' rs1' ∧ HsR j hs' gs'
 | [], ix, e, e1, e', h, g, h', en, en1, en', rs, rs1, rs', hs, hs', gs, _, E, M, N, R, Q, hh => by
  cases hh
  exact ⟨e1, g, en1, rs1, gs, rfl, E, RFr.refl M, N, R, Q⟩
 | o :: l, ix, e, e1, e', h, g, h', en, en1, en', rs, rs1, rs', hs, hs', gs, ok, E, M, N, R, Q, hh => by
  simp only [List.all_cons, Bool.and_eq_true] at ok
  simp only [drawR] at hh ⊢
  rw [want_rn E]
  cases hw : wantA e ops o with
  | false =>
   rw [hw] at hh
   simp only [cond_false, T.seq_eq] at hh ⊢
   exact drawR_rn J Z C l ok.2 (E.putD o.dst undefV) M N R Q hh
  | true =>
   rw [hw] at hh
   simp only [cond_true] at hh ⊢
   split at hh
   ·rename_i v h1 h2
    obtain ⟨g1, e2, f1, hn⟩ := op1_rn J Z C E M ok.1 h2
    rw [e2]
    simp only [fV_eq, T.seq_eq] at hh ⊢
    have E2 := E.putD o.dst v
    cases hc : cls x o with
    | p =>
     rw [hc] at hh
     obtain ⟨a, b, c, d, k, e3, E3, f2, q1, q2, q3⟩ := drawR_rn J Z C l ok.2 E2 f1.m N R Q hh
     exact ⟨a, b, c, d, k, e3, E3, f1.trans J M f2, q1, q2, q3⟩
    | r =>
     rw [hc] at hh
     obtain ⟨a, b, c, d, k, e3, E3, f2, q1, q2, q3⟩ := drawR_rn J Z C l ok.2 E2 f1.m N (.cons ok.1 E R) Q hh
     exact ⟨a, b, c, d, k, e3, E3, f1.trans J M f2, q1, q2, q3⟩
    | n =>
     rw [hc] at hh
     simp only [T.seq_eq] at hh ⊢
     obtain ⟨bb, hb1, hb2⟩ := hn hc
     rw [hb1] at hh
     rw [hb2]
     have N2 : TRn j (en.put h.next (some bb)) (en1.put g.next (some (rnB j bb))) := fun r b hr => by
      rw [T.get_put] at hr ⊢
      rw [← M.next]
      by_cases h3 : h.next = r
      ·subst h3; rw [if_pos rfl] at hr ⊢; cases hr; rfl
      ·rw [if_neg h3] at hr
       rw [if_neg fun e => h3 (J.inj e)]
       exact N _ _ hr
     obtain ⟨a, b, c, d, k, e3, E3, f2, q1, q2, q3⟩ := drawR_rn J Z C l ok.2 E2 f1.m N2 R Q hh
     exact ⟨a, b, c, d, k, e3, E3, f1.trans J M f2, q1, q2, q3⟩
    | h =>
     rw [hc] at hh
     obtain ⟨a, b, c, d, k, e3, E3, f2, q1, q2, q3⟩ := drawR_rn J Z C l ok.2 E2 f1.m N R (.cons f1.m Q) hh
     exact ⟨a, b, c, d, k, e3, E3, f1.trans J M f2, q1, q2, q3⟩
    | call =>
     rw [hc] at hh
     obtain ⟨a, b, c, d, k, e3, E3, f2, q1, q2, q3⟩ := drawR_rn J Z C l ok.2 E2 f1.m N R (.cons f1.m Q) hh
     exact ⟨a, b, c, d, k, e3, E3, f1.trans J M f2, q1, q2, q3⟩
   ·cases hh
theorem again_rn (J : Jn j) (Z : ZRn j x) {en en1 : T B} (N : TRn j en en1) {i : Nat} {o : Oper} {e e1 : Env} {v : V} (ok : opdsOk o = true) (E : EvR j e e1) {h g : H} (M : MRn j h g) (hh : stands.again x en ⟨i, o, e, v⟩ h = true) : stands.again x en1 ⟨i, o, e1, rn j v⟩ g = true := by
 unfold stands.again at hh ⊢
 split at hh
 ·rename_i w hw
  have := opR_rn (g' := fun k => bif Nat.blt k g.next then g.mem.get k else en1.get k) J Z (fun k b hb => ?_) (same_of J E ok) hw
  ·simp only [this]
   rw [sameV_eq _ _ hh]
   exact sameV_rflW _
  ·show (bif Nat.blt (j k) g.next then g.mem.get (j k) else en1.get (j k)) = _
   rw [M.lt J]
   cases hlt : Nat.blt k h.next with
   | true => simp only [hlt, cond_true] at hb; exact M.mem _ _ hb
   | false => simp only [hlt, cond_false] at hb; exact N _ _ hb
 ·cases hh
theorem okAt_rn (J : Jn j) (Z : ZRn j x) {ps : List Nat} {en en1 : T B} (N : TRn j en en1) {i : Nat} {o : Oper} {e e1 : Env} {v : V} (ok : opdsOk o = true) (E : EvR j e e1) {nx : Option Nat} {h g : H} (M : MRn j h g) (hh : stands.okAt x ps en ⟨i, o, e, v⟩ nx h = true) : stands.okAt x ps en1 ⟨i, o, e1, rn j v⟩ nx g = true := by
 unfold stands.okAt at hh ⊢
 cases nx with
 | none => exact again_rn J Z N ok E M hh
 | some k =>
  simp only at hh ⊢
  cases hb : (ps.getD i 0).testBit k with
  | true => rfl
  | false => rw [hb] at hh; exact again_rn J Z N ok E M hh
theorem stands_rn (J : Jn j) (Z : ZRn j x) {ps : List Nat} {en en1 : T B} (N : TRn j en en1) {i : Nat} {o : Oper} {e e1 : Env} {v : V} (ok : opdsOk o = true) (E : EvR j e e1) {h0 g0 : H} (s0 : MRn j h0 g0) : ∀ {hs gs : List (Nat × H)}, HsR j hs gs → ∀ {nx : Option Nat}, stands x ps en h0 ⟨i, o, e, v⟩ nx hs = true → stands x ps en1 g0 ⟨i, o, e1, rn j v⟩ nx gs = true
 | _, _, .nil, nx, hh => by
  simp only [stands] at hh ⊢
  exact okAt_rn J Z N ok E s0 hh
 | _, _, .cons (i := k) s t, nx, hh => by
  simp only [stands, Bool.and_eq_true] at hh ⊢
  refine ⟨?_, stands_rn J Z N ok E s0 t hh.2⟩
  cases hb : (ps.getD k 0).testBit i with
  | true => rfl
  | false =>
   have := hh.1
   rw [hb] at this
   exact okAt_rn J Z N ok E s this
end
section
variable {x : X} {j : Nat → Nat} {call : FuncId → List V → H → Option (V × H)}
theorem all_stand (J : Jn j) (Z : ZRn j x) {ps : List Nat} {en en1 : T B} (N : TRn j en en1) {h0 g0 : H} (s0 : MRn j h0 g0) {hs gs : List (Nat × H)} (Q : HsR j hs gs) : ∀ {rs rs1 : List Rec}, RecsR j rs rs1 → (rs.all fun r => stands x ps en h0 r none hs) = true → (rs1.all fun r => stands x ps en1 g0 r none gs) = true
 | _, _, .nil, _ => rfl
 | _, _, .cons ok E t, hh => by
  simp only [List.all_cons, Bool.and_eq_true] at hh ⊢
  exact ⟨stands_rn J Z N ok E s0 Q hh.1, all_stand J Z N s0 Q t hh.2⟩
theorem region_rn (J : Jn j) (Z : ZRn j x) (C : CallRn j call) {ops : List Oper} {d : Bool} (ok : ops.all opdsOk = true) {e e1 e' : Env} {q : Ex} {h g h' : H} (E : EvR j e e1) (M : MRn j h g) (hh : region x call ops d e h = some (q, e', h')) : ∃ e1' g', region x call ops d e1 g = some (q, e1', g') ∧ EvR j e' e1' ∧ RFr j h g h' g' := by
 unfold region at hh ⊢
 cases d with
 | false =>
  simp only [cond_false] at hh ⊢
  split at hh
  ·rename_i e2 h1 h2
   cases hh
   obtain ⟨a, g', e3, E2, f⟩ := seqR_rn J Z C ops ok E M h2
   exact ⟨a, g', by rw [e3], E2, f⟩
  ·cases hh
 | true =>
  simp only [cond_true] at hh ⊢
  split at hh
  ·rename_i e2 h1 en rs hs h2
   obtain ⟨a, g', en1, rs1, gs, e3, E2, f, N, R, Q⟩ := drawR_rn J Z C ops ok E M (fun r b hb => by simp [T.get] at hb) .nil .nil h2
   rw [e3]
   simp only at hh ⊢
   cases ha : (rs.all fun r => stands x (preds ops []) en h r none hs) with
   | false => rw [ha] at hh; cases hh
   | true =>
    rw [ha] at hh
    cases hh
    rw [all_stand J Z N M Q R ha]
    exact ⟨a, g', rfl, E2, f⟩
  ·cases hh
theorem loopN_rn (J : Jn j) {body : Env → H → Option (Ex × Env × H)} (hb : ∀ (e e1 e' : Env) (h g h' : H) (q : Ex), EvR j e e1 → MRn j h g → body e h = some (q, e', h') → ∃ e1' g', body e1 g = some (q, e1', g') ∧ EvR j e' e1' ∧ RFr j h g h' g') : ∀ (k : Nat) {e e1 e' : Env} {q : Ex} {h g h' : H}, EvR j e e1 → MRn j h g → loopN body k e h = some (q, e', h') → ∃ e1' g', loopN body k e1 g = some (q, e1', g') ∧ EvR j e' e1' ∧ RFr j h g h' g'
 | 0, e, e1, e', q, h, g, h', _, _, hh => by cases hh
 | k + 1, e, e1, e', q, h, g, h', E, M, hh => by
  simp only [loopN] at hh ⊢
  split at hh
  ·rename_i e2 h1 h2
   obtain ⟨a, g1, e3, E2, f1⟩ := hb _ _ _ _ _ _ _ E M h2
   rw [e3]
   obtain ⟨a', g', e4, E3, f2⟩ := loopN_rn J hb k E2 f1.m hh
   exact ⟨a', g', e4, E3, f1.trans J M f2⟩
  ·rename_i id e2 h1 h2
   cases hh
   obtain ⟨a, g1, e3, E2, f1⟩ := hb _ _ _ _ _ _ _ E M h2
   exact ⟨a, g1, by rw [e3], E2, f1⟩
  ·rename_i e2 h1 h2
   cases hh
   obtain ⟨a, g1, e3, E2, f1⟩ := hb _ _ _ _ _ _ _ E M h2
   exact ⟨a, g1, by rw [e3], E2, f1⟩
  ·cases hh
theorem code_rn (J : Jn j) (Z : ZRn j x) (C : CallRn j call) (k nt : Nat) : ∀ (c : Code) {e e1 e' : Env} {q : Ex} {h g h' : H}, codeOk x nt c = true → EvR j e e1 → MRn j h g → code x call k c e h = some (q, e', h') → ∃ e1' g', code x call k c e1 g = some (q, e1', g') ∧ EvR j e' e1' ∧ RFr j h g h' g' := by
 intro c
 induction c with
 | skip => intro e e1 e' q h g h' _ E M hh; cases hh; exact ⟨e1, g, rfl, E, RFr.refl M⟩
 | exit id => intro e e1 e' q h g h' _ E M hh; cases hh; exact ⟨e1, g, rfl, E, RFr.refl M⟩
 | ret => intro e e1 e' q h g h' _ E M hh; cases hh; exact ⟨e1, g, rfl, E, RFr.refl M⟩
 | region id ops d =>
  intro e e1 e' q h g h' ok E M hh
  refine region_rn J Z C ?_ E M hh
  simp only [codeOk, regOk, Bool.and_eq_true] at ok
  rw [List.all_eq_true] at ok ⊢
  intro o ho
  have := ok.1 o ho
  rw [Bool.and_eq_true] at this
  exact this.1
 | seq a b iha ihb =>
  intro e e1 e' q h g h' ok E M hh
  simp only [codeOk, Bool.and_eq_true] at ok
  simp only [code] at hh ⊢
  split at hh
  ·rename_i e2 h1 h2
   obtain ⟨a1, g1, e3, E2, f1⟩ := iha ok.1 E M h2
   rw [e3]
   obtain ⟨a2, g', e4, E3, f2⟩ := ihb ok.2 E2 f1.m hh
   exact ⟨a2, g', e4, E3, f1.trans J M f2⟩
  ·rename_i id e2 h1 h2
   cases hh
   obtain ⟨a1, g1, e3, E2, f1⟩ := iha ok.1 E M h2
   exact ⟨a1, g1, by rw [e3], E2, f1⟩
  ·rename_i e2 h1 h2
   cases hh
   obtain ⟨a1, g1, e3, E2, f1⟩ := iha ok.1 E M h2
   exact ⟨a1, g1, by rw [e3], E2, f1⟩
  ·cases hh
 | cond t a b iha ihb =>
  intro e e1 e' q h g h' ok E M hh
  simp only [codeOk, Bool.and_eq_true] at ok
  simp only [code] at hh ⊢
  rw [ev_rn J E ok.1.1]
  cases hv : ev e t <;> simp only [hv, reduceCtorEq] at hh
  rename_i w
  cases w
  ·simp only [rn]; exact ihb ok.2 E M hh
  ·simp only [rn]; exact iha ok.1.2 E M hh
 | block id c ih =>
  intro e e1 e' q h g h' ok E M hh
  simp only [codeOk] at ok
  simp only [code] at hh ⊢
  split at hh
  ·rename_i e2 h1 h2
   cases hh
   obtain ⟨a1, g1, e3, E2, f1⟩ := ih ok E M h2
   exact ⟨a1, g1, by rw [e3], E2, f1⟩
  ·rename_i id' e2 h1 h2
   obtain ⟨a1, g1, e3, E2, f1⟩ := ih ok E M h2
   rw [e3]
   simp only
   cases hi : Nat.beq id' id with
   | true => rw [hi] at hh; cases hh; exact ⟨a1, g1, rfl, E2, f1⟩
   | false => rw [hi] at hh; cases hh; exact ⟨a1, g1, rfl, E2, f1⟩
  ·rename_i e2 h1 h2
   cases hh
   obtain ⟨a1, g1, e3, E2, f1⟩ := ih ok E M h2
   exact ⟨a1, g1, by rw [e3], E2, f1⟩
  ·cases hh
 | loop c ih =>
  intro e e1 e' q h g h' ok E M hh
  simp only [codeOk] at ok
  simp only [code] at hh ⊢
  exact loopN_rn J (body := code x call k c) (fun _ _ _ _ _ _ _ E M hh => ih ok E M hh) k E M hh
 | _ => intro e e1 e' q h g h' _ _ _ hh; cases hh
theorem resL_rn {e e1 : Env} {h g : H} (J : Jn j) (E : EvR j e e1) (M : MRn j h g) : ∀ {l : List ResultVar} {vs : List V}, (∀ a t, ResultVar.cell a t ∈ l → True) → resL x e h l = some vs → (∀ a t, ResultVar.cell a t ∈ l → gv e1 a = rn j (gv e a)) → resL x e1 g l = some (vs.map (rn j))
 | [], vs, _, hh, _ => by cases hh; rfl
 | r :: l, vs, hc, hh, h0 => by
  simp only [resL] at hh ⊢
  split at hh
  ·rename_i v vs1 h1 h2
   have h3 : res1 x e1 g r = some (rn j v) := by
    cases r with
    | tmp t =>
     simp only [res1, Option.some.injEq] at h1 ⊢
     rw [← h1]; exact E t
    | cell a t =>
     simp only [res1] at h1 ⊢
     obtain ⟨i, hi, h1⟩ := ti_ex h1
     rw [ti_some _ hi, E a]
     cases hv : gv e a <;> simp only [hv, reduceCtorEq] at h1
     simp only [rn]
     exact loadB_rn M.mem h1
   rw [h3, resL_rn J E M (fun a t ha => trivial) h2 (fun a t ha => h0 a t (List.mem_cons_of_mem _ ha))]
   cases hh; rfl
  ·cases hh
theorem env0_rn (args : List V) : EvR j (env0 args 0 .l) (env0 (args.map (rn j)) 0 .l) := fun t => by
 rw [← argW_eq, ← argW_eq]
 unfold argW
 rw [List.getD_eq_getElem?_getD, List.getD_eq_getElem?_getD, List.getElem?_map]
 cases args[t]? <;> rfl
theorem resV_rn (vs : List V) : resV (vs.map (rn j)) = rn j (resV vs) := by
 cases vs with
 | nil => rfl
 | cons v l =>
  cases l with
  | nil => rfl
  | cons w l => simp only [resV, List.map_cons, rn, rns, rns_map]
theorem extV_rn {name : String} {args : List V} {v : V} (h : extV name args = some v) : extV name (args.map (rn j)) = some (rn j v) := by
 unfold extV at h ⊢
 cases h1 : (name == "internal/bytealg.IndexByteString") with
 | true =>
  rw [h1] at h
  simp only [cond_true] at h ⊢
  split at h
  ·cases h; rfl
  ·cases h
 | false =>
  rw [h1] at h
  simp only [cond_false] at h ⊢
  cases h2 : (name == "internal/bytealg.CountString") with
  | true =>
   rw [h2] at h
   simp only [cond_true] at h ⊢
   split at h
   ·cases h; rfl
   ·cases h
  | false =>
   rw [h2] at h
   simp only [cond_false] at h ⊢
   cases h3 : (name == "internal/abi.NoEscape") with
   | true =>
    rw [h3] at h
    simp only [cond_true] at h ⊢
    split at h
    ·cases h; rfl
    ·cases h
   | false => rw [h3] at h; cases h
theorem extM_rn (J : Jn j) {ml : Option Nat} {name : String} {args : List V} {g g' : Nat → Option B} (hg : ∀ r b, g r = some b → g' (j r) = some (rnB j b)) {v : V} (h : extM ml name args g = some v) : extM ml name (args.map (rn j)) g' = some (rn j v) := by
 unfold extM at h ⊢
 obtain ⟨hn, h⟩ := bif_ex2 h
 simp only [hn, cond_true]
 split at h
 ·rename_i a b r _
  split at h
  ·rename_i m l t o hr
   obtain ⟨hb, h⟩ := bif_ex h
   cases h
   have hr16 : r < 16 := by
    simp only [Bool.and_eq_true] at hb
    simpa using hb.1.1.1
   have := hg _ _ hr
   rw [J.fix hr16] at this
   simp only [List.map_cons, List.map_nil, rn, this, rnB, hb, cond_true]
  ·cases h
 ·cases h
theorem sem_rn (J : Jn j) (Z : ZRn j x) (k : Nat) : ∀ n, CallRn j (sem x k n)
 | 0, f, args, h, v, h', g, hh, _ => by cases hh
 | n + 1, f, args, h, v, h', g, hh, M => by
  simp only [sem] at hh ⊢
  split at hh
  ·cases hh
  ·rename_i fn hf
   try simp only [hf]
   cases hok : fnOk x fn with
   | false =>
    rw [hok] at hh
    simp only [cond_false] at hh ⊢
    unfold extS at hh ⊢
    split at hh
    ·cases hh
    ·try simp only
     obtain ⟨hb, hh⟩ := bif_ex2 hh
     simp only [hb, cond_true]
     split at hh
     ·rename_i w hw
      cases hh
      exact ⟨g, by rw [extV_rn hw], RFr.refl M⟩
     ·rename_i hw0
      split at hh
      ·rename_i w hw
       cases hh
       refine ⟨g, ?_, RFr.refl M⟩
       have e0 : extV fn.name (args.map (rn j)) = none := by
        have hn := (bif_ex2 hw).1
        unfold extV
        rw [eq_of_beq hn]
        rfl
       rw [e0, extM_rn J M.mem hw]
      ·cases hh
   | true =>
    rw [hok] at hh
    simp only [cond_true] at hh ⊢
    split at hh
    ·cases hh
    ·rename_i c hc
     try simp only [hc]
     have ok : codeOk x fn.ntmps c = true := by
      unfold fnOk at hok
      rw [hc] at hok
      simp only [Bool.and_eq_true] at hok
      exact hok.2
     have done : ∀ {q : Ex} {e : Env} {h1 : H}, code x (sem x k n) k c (env0 args 0 .l) h = some (q, e, h1) → (match resL x e h1 fn.results.toList with
       | some vs => some (resV vs, h1)
       | none => none) = some (v, h') → ∃ e1 g1, code x (sem x k n) k c (env0 (args.map (rn j)) 0 .l) g = some (q, e1, g1) ∧ (match resL x e1 g1 fn.results.toList with
       | some vs => some (resV vs, g1)
       | none => none) = some (rn j v, g1) ∧ RFr j h g h' g1 := by
      intro q e h1 h2 h3
      obtain ⟨e1, g1, e2, E2, f1⟩ := code_rn J Z (sem_rn J Z k n) k fn.ntmps c ok (env0_rn args) M h2
      split at h3
      ·rename_i vs hv
       cases h3
       exact ⟨e1, g1, e2, by rw [resL_rn J E2 f1.m (fun _ _ _ => trivial) hv (fun a t _ => E2 a), ← resV_rn], f1⟩
      ·cases h3
     split at hh
     ·rename_i e h1 h2
      obtain ⟨e1, g1, e2, e3, f⟩ := done h2 hh
      exact ⟨g1, by rw [e2]; exact e3, f⟩
     ·rename_i e h1 h2
      obtain ⟨e1, g1, e2, e3, f⟩ := done h2 hh
      exact ⟨g1, by rw [e2]; exact e3, f⟩
     ·cases hh
theorem zrn (J : Jn j) (P : Program) : ZRn j (mkX P) := by
 intro t i hi
 obtain ⟨q⟩ := tiOf_ok (mkX_tt hi)
 have hv := rn_ofVal J q.z
 refine ⟨?_, by rw [q.zv_eq]; exact hv⟩
 rw [q.zero_eq, ← cells_rn, hv]
end
end Go.Am
namespace Go.Am
mutual
def bel (N : Nat) : V → Bool
 | .p r _ => Nat.blt r N
 | .sl r _ _ _ _ => Nat.blt r N
 | .se r _ _ => Nat.blt r N
 | .ze r => Nat.blt r N
 | .zs r _ _ => Nat.blt r N
 | .m r => Nat.blt r N
 | .f _ cs => bels N cs
 | .ic _ v => bel N v
 | .a l => bels N l
 | .t l => bels N l
 | .b _ => true
 | .i _ _ => true
 | .s _ => true
 | .np => true
 | .ns => true
 | .nm => true
 | .nf => true
 | .ni => true
def bels (N : Nat) : List V → Bool
 | [] => true
 | v :: l => bel N v && bels N l
end
def belE (N : Nat) : List (V × V × Nat) → Bool
 | [] => true
 | (a, b, _) :: l => bel N a && bel N b && belE N l
def belB (N : Nat) : B → Bool
 | .c l _ _ => bels N l
 | .mp es _ => belE N es
 | .it _ _ => true
section
variable {j q : Nat → Nat} {N : Nat}
mutual
theorem rn_congr (hj : ∀ r, r < N → j r = q r) : ∀ (v : V), bel N v = true → rn j v = rn q v
 | .p r _, h => by simp only [bel, Nat.blt_eq] at h; simp only [rn, hj r h]
 | .sl r _ _ _ _, h => by simp only [bel, Nat.blt_eq] at h; simp only [rn, hj r h]
 | .se r _ _, h => by simp only [bel, Nat.blt_eq] at h; simp only [rn, hj r h]
 | .ze r, h => by simp only [bel, Nat.blt_eq] at h; simp only [rn, hj r h]
 | .zs r _ _, h => by simp only [bel, Nat.blt_eq] at h; simp only [rn, hj r h]
 | .m r, h => by simp only [bel, Nat.blt_eq] at h; simp only [rn, hj r h]
 | .f _ cs, h => by simp only [rn, rns_congr hj cs (by simpa only [bel] using h)]
 | .ic _ v, h => by simp only [rn, rn_congr hj v (by simpa only [bel] using h)]
 | .a l, h => by simp only [rn, rns_congr hj l (by simpa only [bel] using h)]
 | .t l, h => by simp only [rn, rns_congr hj l (by simpa only [bel] using h)]
 | .b _, _ => rfl
 | .i _ _, _ => rfl
 | .s _, _ => rfl
 | .np, _ => rfl
 | .ns, _ => rfl
 | .nm, _ => rfl
 | .nf, _ => rfl
 | .ni, _ => rfl
theorem rns_congr (hj : ∀ r, r < N → j r = q r) : ∀ (l : List V), bels N l = true → rns j l = rns q l
 | [], _ => rfl
 | v :: l, h => by
  simp only [bels, Bool.and_eq_true] at h
  simp only [rns, rn_congr hj v h.1, rns_congr hj l h.2]
end
theorem rnE_congr (hj : ∀ r, r < N → j r = q r) : ∀ (es : List (V × V × Nat)), belE N es = true → rnE j es = rnE q es
 | [], _ => rfl
 | (a, b, c) :: es, h => by
  simp only [belE, Bool.and_eq_true] at h
  show (rn j a, rn j b, c) :: rnE j es = (rn q a, rn q b, c) :: rnE q es
  rw [rn_congr hj a h.1.1, rn_congr hj b h.1.2, rnE_congr hj es h.2]
theorem rnB_congr (hj : ∀ r, r < N → j r = q r) (b : B) (h : belB N b = true) : rnB j b = rnB q b := by
 cases b with
 | c l t o => simp only [rnB, ← rns_map, rns_congr hj l (by simpa only [belB] using h)]
 | mp es c => simp only [rnB, rnE_congr hj es (by simpa only [belB] using h)]
 | it s p => rfl
def jN (q : Nat → Nat) (N G : Nat) (r : Nat) : Nat := if r < N then q r else G + (r - N)
theorem jN_lt {q : Nat → Nat} {N G r : Nat} (h : r < N) : jN q N G r = q r := if_pos h
theorem jN_ge {q : Nat → Nat} {N G : Nat} (k : Nat) : jN q N G (N + k) = G + k := by
 unfold jN
 rw [if_neg (by omega)]
 omega
end
end Go.Am
namespace Go.Am
open Go.ChangeShapes Go.WideShapes Go.ChangeAt Go.RowKit
abbrev Tb := List (Nat × IntKind × List Int)
end Go.Am
namespace Go.Am
theorem handed_and_shaped {H : Type} {enc : TypeId × Value → H} {a : Assume} {C : Checked} {os : Os} {f : FuncId} {fn : Func} {s : ChangeSpec} {conds : List PathCond} {apart fresh handsOn again : Bool} {X : World → Array Value → Prop}
  (hX : ∀ (w w' : World) (args : Array Value), w.heap = w'.heap → X w args → X w' args)
  (own : ownKnob C.prog.godebug = none) (started : os.Started) (noInit : C.prog.inits.idxOf? f = none) (hfn : C.prog.funcs[f]? = some fn)
  (witness : ∃ (w : World) (tape : Tape) (i : Input), w.os = os ∧ (w.forCall tape i).Shaped C.prog ∧ i.vars = [] ∧ Input.okWide C.prog (w.forCall tape i) .any w.heap.size f i ∧
   ((s.pre enc C.prog fn conds apart (w.forCall tape i).memory i.args ∧ X (w.forCall tape i).memory i.args) ∧ sizedMet enc C.prog fn (OpenSpec.ofChange s) apart (w.forCall tape i).memory i.args) ∧ a.holds C.prog (lone (Frame.enter C.prog f i.args .normal) [] (w.forCall tape i)))
  (contract : ∀ (W : World) (base : Nat) (args : Array Value) (ds gs : List (DataW H)) (before : List MemPlace), W.ShapedOpen C.prog →
   (∀ (j : Nat) t v, fn.params[j]? = some t → args[j]? = some v → Value.okWide C.prog W .any base t v) →
   DataW.Whole enc C.prog fn.params.toList s.vars apart W args.toList ds gs before → X W args →
   Calls C.prog f args W fun e W' => ∃ v, e = .returned v ∧ s.post enc C.prog fn apart fresh handsOn again W args v W') :
  ReturnsInHanded a C os f .any (fun w args => (s.pre enc C.prog fn conds apart w args ∧ X w args) ∧ sizedMet enc C.prog fn (OpenSpec.ofChange s) apart w args) (s.post enc C.prog fn apart fresh handsOn again) := by
 refine returnsInHanded_of_calls own started noInit witness ?_
 intro w tape i _ hs _ hok hpre _
 obtain ⟨_, _, _, fn', hfn', _, _, _, _, hval⟩ := hok
 obtain rfl : fn' = fn := Option.some.inj (hfn'.symm.trans hfn)
 obtain ⟨⟨⟨ds, gs, before, hw, _⟩, hx⟩, _⟩ := hpre
 refine (contract (w.forCall tape i) w.heap.size i.args ds gs before hs hval (DataW.Whole.of_heap (w' := w.forCall tape i) (by rfl) hw) (hX _ _ _ (by rfl) hx)).mono fun e W' ⟨v, he, hp⟩ => ?_
 subst he
 exact ChangeSpec.post_blind hp
end Go.Am
