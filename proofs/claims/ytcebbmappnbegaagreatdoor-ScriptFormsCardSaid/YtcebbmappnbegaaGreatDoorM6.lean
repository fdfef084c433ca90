/- The machine minds only the memory that it uses: in a greater memory it does the same. -/
import Derived.Test.YtcebbmappnbegaaGreatDoorM3
import Derived.Lib.LaidTab
import Derived.Lib.LaidU8
import Derived.Handed
import Derived.HandedShaped
import Derived.Shelf.Vars
set_option linter.unusedSimpArgs false
set_option linter.unusedVariables false
set_option linter.unusedSectionVars false
set_option linter.unnecessarySimpa false
namespace Go.Am
section
variable {x : X}
theorem ti_ex {α : Type} {t : TypeId} {k : TI → Option α} {v : α} (h : ti x t k = some v) : ∃ i, x.tt.get t = some i ∧ k i = some v := by
 unfold ti at h
 split at h
 ·rename_i i hi; exact ⟨i, hi, h⟩
 ·cases h
theorem opR_mono {E : Env} {o : Oper} {g g' : Nat → Option B} {v : V} (hg : ∀ r b, g r = some b → g' r = some b) (h : opR x E g o = some v) : opR x E g' o = some v := by
 have ent : ∀ {m : V} {es : List (V × V × Nat)}, entries g m = some es → entries g' m = some es := by
  intro m es he
  unfold entries at he ⊢
  split
  ·exact he
  ·rename_i r
   simp only at he
   cases hr : g r with
   | none => rw [hr] at he; cases he
   | some b => rw [hg r b hr]; rw [hr] at he; exact he
  ·rename_i h1 h2
   split at he
   ·exact absurd rfl h1
   ·exact absurd rfl (h2 _)
   ·exact he
 unfold opR at h ⊢
 split at h
 ·rename_i t u ho
  obtain ⟨i, hi, h⟩ := ti_ex h
  rw [ti_some _ hi]
  split at h
  ·rename_i r k hv
   unfold loadB at h ⊢
   cases hr : g r with
   | none => rw [hr] at h; cases h
   | some b => rw [hg r b hr]; rw [hr] at h; exact h
  ·cases h
 ·rename_i t m ix ok ho
  obtain ⟨i, hi, h⟩ := ti_ex h
  rw [ti_some _ hi]
  split at h
  ·rename_i kt et hk
   try simp only [hk]
   obtain ⟨ki, hki, h⟩ := ti_ex h
   rw [ti_some _ hki]
   obtain ⟨ei, hei, h⟩ := ti_ex h
   rw [ti_some _ hei]
   split at h
   ·rename_i es he
    rw [ent he]
    exact h
   ·cases h
  ·cases h
 ·rename_i s0 d u ho
  obtain ⟨i, hi, h⟩ := ti_ex h
  rw [ti_some _ hi]
  obtain ⟨j, hj, h⟩ := ti_ex h
  rw [ti_some _ hj]
  split at h
  ·rename_i h1 h2 h3; (try simp only [h1, h2, h3]); exact h
  ·rename_i h1 h2 h3; (try simp only [h1, h2, h3]); exact h
  ·rename_i h1 h2 h3; (try simp only [h1, h2, h3]); exact h
  ·rename_i h1 h2 h3
   try simp only [h1, h2, h3]
   obtain ⟨q, hq, h⟩ := ti_ex h
   rw [ti_some _ hq]
   split at h
   ·rename_i hk hr
    try simp only [hk, hg _ _ hr]
    exact h
   ·cases h
  ·rename_i h1 h2 h3
   try simp only [h1, h2, h3]
   obtain ⟨q, hq, h⟩ := ti_ex h
   rw [ti_some _ hq]
   split at h
   ·rename_i hk hr
    try simp only [hk, hg _ _ hr]
    exact h
   ·cases h
  ·exact h
  ·obtain ⟨q, hq, h⟩ := ti_ex h
   rw [ti_some _ hq]
   split at h
   ·rename_i hr
    simp only [hg _ _ hr]
    exact h
   ·cases h
  ·exact h
  ·obtain ⟨q, hq, h⟩ := ti_ex h
   rw [ti_some _ hq]
   split at h
   ·rename_i hr
    simp only [hg _ _ hr]
    exact h
   ·cases h
  ·cases h
 ·rename_i c ho
  unfold builtinR at h ⊢
  split at h
  ·split at h
   ·split at h
    ·rename_i hc _ _ _ _ ha ht
     obtain ⟨i, hi, h⟩ := ti_ex h
     try simp only [hc, ha, ht]
     rw [ti_some _ hi]
     split at h
     ·rename_i hk
      try simp only [hk]
      split at h
      ·rename_i es he
       rw [ent he]; exact h
      ·cases h
     ·cases h
    ·cases h
   ·cases h
  ·cases h
 ·cases h
end
def Sub (h g : H) : Prop := g.next = h.next ∧ ∀ r b, h.mem.get r = some b → g.mem.get r = some b
def Fr (h g h' g' : H) : Prop := Sub h' g' ∧ h.next ≤ h'.next ∧ ∀ r, r < h.next → h.mem.get r = none → h'.mem.get r = none ∧ g'.mem.get r = g.mem.get r
theorem Fr.refl {h g : H} (s : Sub h g) : Fr h g h g := ⟨s, Nat.le_refl _, fun _ _ e => ⟨e, rfl⟩⟩
theorem Fr.trans {a a' b b' c c' : H} (x : Fr a a' b b') (y : Fr b b' c c') : Fr a a' c c' :=
 ⟨y.1, Nat.le_trans x.2.1 y.2.1, fun r hr e => by
  obtain ⟨e1, e2⟩ := x.2.2 r hr e
  obtain ⟨e3, e4⟩ := y.2.2 r (Nat.lt_of_lt_of_le hr x.2.1) e1
  exact ⟨e3, e4.trans e2⟩⟩
theorem fr_put {h g : H} (s : Sub h g) {r : Nat} {b0 : B} (hr : h.mem.get r = some b0) (b : Option B) : Fr h g ⟨h.next, h.mem.put r b⟩ ⟨g.next, g.mem.put r b⟩ := by
 refine ⟨⟨s.1, fun q c hq => ?_⟩, Nat.le_refl _, fun q _ e => ?_⟩
 ·simp only [T.get_put] at hq ⊢
  by_cases h1 : r = q
  ·rw [if_pos h1] at hq ⊢; exact hq
  ·rw [if_neg h1] at hq ⊢; exact s.2 _ _ hq
 ·simp only [T.get_put]
  have hne : ¬ r = q := fun e' => by subst e'; rw [hr] at e; cases e
  rw [if_neg hne, if_neg hne]
  exact ⟨e, rfl⟩
theorem fr_new {h g : H} (s : Sub h g) (b : B) : Fr h g ⟨h.next + 1, h.mem.put h.next (some b)⟩ ⟨g.next + 1, g.mem.put g.next (some b)⟩ := by
 refine ⟨⟨by simp only [s.1], fun q c hq => ?_⟩, Nat.le_succ _, fun q hq e => ?_⟩
 ·simp only [T.get_put] at hq ⊢
  rw [s.1]
  by_cases h1 : h.next = q
  ·rw [if_pos h1] at hq ⊢; exact hq
  ·rw [if_neg h1] at hq ⊢; exact s.2 _ _ hq
 ·simp only [T.get_put]
  rw [s.1, if_neg (by omega), if_neg (by omega)]
  exact ⟨e, rfl⟩
theorem storeB_fr {h g h' : H} (s : Sub h g) {r o : Nat} {vs : List V} (hh : storeB h r o vs = some h') : ∃ g', storeB g r o vs = some g' ∧ Fr h g h' g' := by
 unfold storeB at hh ⊢
 split at hh
 ·rename_i l ty own hg
  rw [s.2 _ _ hg]
  try simp only
  cases hb : (own && vs.all oneV) with
  | false => rw [hb] at hh; cases hh
  | true =>
   rw [hb] at hh
   simp only [cond_true] at hh ⊢
   split at hh
   ·rename_i l' hl
    simp only [T.seq_eq, Option.some.injEq] at hh ⊢
    subst hh
    exact ⟨_, rfl, fr_put s hg _⟩
   ·cases hh
 ·cases hh
theorem fcells_fr {h g : H} (s : Sub h g) {j : TI} {n : Nat} {v : V} {cs : List V} (hh : fcells h j n v = some cs) : fcells g j n v = some cs := by
 cases v <;> try exact hh
 rename_i r o _ _ _
 simp only [fcells] at hh ⊢
 split at hh
 ·rename_i l ty own hg
  rw [s.2 _ _ hg]; exact hh
 ·cases hh
theorem appA_fr {h g h' : H} (s : Sub h g) {el : TypeId} {j : TI} {u v : V} {n : Nat} {cs : List V} (hh : appA h el j u n cs = some (v, h')) : ∃ g', appA g el j u n cs = some (v, g') ∧ Fr h g h' g' := by
 unfold appA at hh ⊢
 cases hn : Nat.beq n 0 with
 | true =>
  rw [hn] at hh
  simp only [cond_true] at hh ⊢
  cases u <;> simp only at hh ⊢ <;> try cases hh
  ·exact ⟨g, rfl, Fr.refl s⟩
  ·rename_i r o len cap e
   cases hb : Nat.ble len cap with
   | false => rw [hb] at hh; cases hh
   | true => rw [hb] at hh; cases hh; exact ⟨g, rfl, Fr.refl s⟩
  ·exact ⟨g, rfl, Fr.refl s⟩
  ·exact ⟨g, rfl, Fr.refl s⟩
 | false =>
  rw [hn] at hh
  simp only [cond_false] at hh ⊢
  have new : ∀ {c : List V} {w : V} {b : Bool}, (bif b then newB h (.c c el true) fun h' => some (V.sl h.next 0 n n true, h') else none) = some (v, h') → ∃ g', (bif b then newB g (.c c el true) fun h' => some (V.sl g.next 0 n n true, h') else none) = some (v, g') ∧ Fr h g h' g' := by
   intro c w b hh
   cases b with
   | false => cases hh
   | true =>
    simp only [cond_true, newB_eq, Option.some.injEq, Prod.mk.injEq] at hh ⊢
    obtain ⟨rfl, rfl⟩ := hh
    exact ⟨_, ⟨by rw [s.1], rfl⟩, fr_new s _⟩
  cases u <;> simp only at hh ⊢ <;> try cases hh
  ·exact new (w := v) hh
  ·rename_i r o len cap e
   cases hroom : (Nat.ble (len + n) cap && Nat.ble (n * j.by_) most) with
   | true =>
    rw [hroom] at hh
    simp only [cond_true] at hh ⊢
    split at hh
    ·rename_i h1 hst
     cases hh
     obtain ⟨g1, e1, e2⟩ := storeB_fr s hst
     exact ⟨g1, by rw [e1], e2⟩
    ·cases hh
   | false =>
    rw [hroom] at hh
    simp only [cond_false] at hh ⊢
    split at hh
    ·rename_i l ty own hg
     rw [s.2 _ _ hg]
     try simp only
     split at hh
     ·rename_i old hold
      try simp only [hold]
      cases hsz : (Nat.ble ((len + n) * j.by_) most && Nat.ble (len + n) most) with
      | false => rw [hsz] at hh; cases hh
      | true =>
       rw [hsz] at hh
       simp only [cond_true] at hh ⊢
       cases e with
       | true =>
        simp only [cond_true] at hh ⊢
        cases hc : (own && Nat.ble len cap && Nat.beq l.length (o + cap * j.sz) && Nat.beq ty el && Nat.beq cs.length (n * j.sz) && cs.all oneV) with
        | false => rw [hc] at hh; cases hh
        | true =>
         rw [hc] at hh
         simp only [cond_true, T.seq_eq, newB_eq, Option.some.injEq, Prod.mk.injEq] at hh ⊢
         obtain ⟨rfl, rfl⟩ := hh
         have f1 := fr_put s hg none
         have f2 := fr_new f1.1 (.c (old ++ cs) el true)
         exact ⟨_, ⟨by rw [s.1], rfl⟩, f1.trans f2⟩
       | false =>
        simp only [cond_false, newB_eq, Option.some.injEq, Prod.mk.injEq] at hh ⊢
        obtain ⟨rfl, rfl⟩ := hh
        exact ⟨_, ⟨by rw [s.1], rfl⟩, fr_new s _⟩
     ·cases hh
    ·cases hh
  ·rename_i r o' o
   split at hh
   ·rename_i l ty own hg
    rw [s.2 _ _ hg]
    try simp only
    cases hc : (own && Nat.beq l.length o && Nat.beq ty el && Nat.beq cs.length (n * j.sz) && cs.all oneV && Nat.ble (n * j.by_) most && Nat.ble n most) with
    | false => rw [hc] at hh; cases hh
    | true =>
     rw [hc] at hh
     simp only [cond_true, T.seq_eq, newB_eq, Option.some.injEq, Prod.mk.injEq] at hh ⊢
     obtain ⟨rfl, rfl⟩ := hh
     have f1 := fr_put s hg none
     have f2 := fr_new f1.1 (.c cs el true)
     exact ⟨_, ⟨by rw [s.1], rfl⟩, f1.trans f2⟩
   ·cases hh
  ·exact new (w := v) hh
section
variable {x : X}
theorem entries_fr {h g : H} (s : Sub h g) {m : V} {es : List (V × V × Nat)} (he : entries h.mem.get m = some es) : entries g.mem.get m = some es := by
 cases m <;> try exact he
 rename_i r
 simp only [entries] at he ⊢
 split at he
 ·rename_i es' c hg; rw [s.2 _ _ hg]; exact he
 ·cases he
theorem opH_fr {e : Env} {h g h' : H} (s : Sub h g) {o : Oper} {v : V} (hh : opH x e h o = some (v, h')) : ∃ g', opH x e g o = some (v, g') ∧ Fr h g h' g' := by
 unfold opH at hh ⊢
 split at hh
 ·rename_i t u w ho
  obtain ⟨i, hi, hh⟩ := ti_ex hh
  rw [ti_some _ hi]
  split at hh
  ·rename_i r k hv
   cases hb : Nat.beq (cellsOfV (ev e w)).length i.sz with
   | false => rw [hb] at hh; cases hh
   | true =>
    rw [hb] at hh
    simp only [cond_true] at hh ⊢
    split at hh
    ·rename_i h1 hst
     cases hh
     obtain ⟨g1, e1, e2⟩ := storeB_fr s hst
     exact ⟨g1, by rw [e1], e2⟩
    ·cases hh
  ·cases hh
 ·rename_i t m k w ho
  obtain ⟨i, hi, hh⟩ := ti_ex hh
  rw [ti_some _ hi]
  split at hh
  ·rename_i kt et hk
   try simp only
   obtain ⟨ki, hki, hh⟩ := ti_ex hh
   rw [ti_some _ hki]
   split at hh
   ·rename_i r hm
    split at hh
    ·rename_i es c hg
     simp only [s.2 _ _ hg]
     split at hh
     ·rename_i n w' hf
      cases hh
      try simp only [hf]
      exact ⟨_, rfl, fr_put s hg _⟩
     ·rename_i hf
      cases hh
      try simp only [hf]
      exact ⟨_, rfl, fr_put s hg _⟩
     ·cases hh
    ·cases hh
   ·cases hh
  ·cases hh
 ·rename_i u b ho
  unfold nextH at hh ⊢
  cases b with
  | false => cases hh
  | true =>
   simp only [cond_true] at hh ⊢
   split at hh
   ·rename_i r hv
    split at hh
    ·rename_i st pos hg
     simp only [s.2 _ _ hg]
     cases hb : Nat.blt pos st.length with
     | false => rw [hb] at hh; cases hh; exact ⟨g, rfl, Fr.refl s⟩
     | true =>
      rw [hb] at hh
      simp only [cond_true, Option.some.injEq, Prod.mk.injEq] at hh ⊢
      obtain ⟨rfl, rfl⟩ := hh
      exact ⟨_, ⟨rfl, rfl⟩, fr_put s hg _⟩
    ·cases hh
   ·cases hh
 ·rename_i c ho
  unfold builtinH at hh ⊢
  split at hh
  ·rename_i b hb
   split at hh
   ·split at hh
    ·rename_i u w t t' ha ht
     unfold appendH at hh ⊢
     obtain ⟨i, hi, hh⟩ := ti_ex hh
     rw [ti_some _ hi]
     split at hh
     ·rename_i el hk
      try simp only
      obtain ⟨j, hj, hh⟩ := ti_ex hh
      rw [ti_some _ hj]
      obtain ⟨i', hi', hh⟩ := ti_ex hh
      rw [ti_some _ hi']
      split at hh
      ·rename_i k1 k2 n hk1 hw
       cases hb2 : (Nat.ble n most && Nat.ble (n * j.by_) most) with
       | false => rw [hb2] at hh; cases hh
       | true =>
        rw [hb2] at hh
        simp only [cond_true] at hh ⊢
        exact appA_fr s hh
      ·cases hh
      ·split at hh
       ·rename_i n hn
        try simp only [hn]
        split at hh
        ·rename_i cs hcs
         simp only [fcells_fr s hcs]
         exact appA_fr s hh
        ·cases hh
       ·cases hh
     ·cases hh
    ·cases hh
   ·split at hh
    ·rename_i u w t ts ha ht
     unfold copyH at hh ⊢
     obtain ⟨i, hi, hh⟩ := ti_ex hh
     rw [ti_some _ hi]
     split at hh
     ·rename_i el hk
      try simp only
      obtain ⟨j, hj, hh⟩ := ti_ex hh
      rw [ti_some _ hj]
      split at hh
      ·rename_i m n hm hn
       try simp only
       split at hh
       ·rename_i cs hcs
        simp only [fcells_fr s hcs]
        split at hh
        ·cases hh; exact ⟨g, rfl, Fr.refl s⟩
        ·cases hh; exact ⟨g, rfl, Fr.refl s⟩
        ·cases hh; exact ⟨g, rfl, Fr.refl s⟩
        ·rename_i r o a b d hv
         cases hz : Nat.beq (min n m) 0 with
         | true => rw [hz] at hh; cases hh; exact ⟨g, rfl, Fr.refl s⟩
         | false =>
          rw [hz] at hh
          simp only [cond_false] at hh ⊢
          split at hh
          ·rename_i h1 hst
           cases hh
           obtain ⟨g1, e1, e2⟩ := storeB_fr s hst
           exact ⟨g1, by rw [e1], e2⟩
          ·cases hh
        ·cases hh
       ·cases hh
      ·cases hh
     ·cases hh
    ·cases hh
   ·split at hh
    ·rename_i u t ha ht
     unfold clearH at hh ⊢
     obtain ⟨i, hi, hh⟩ := ti_ex hh
     rw [ti_some _ hi]
     split at hh
     ·cases hh; exact ⟨g, by simp [*], Fr.refl s⟩
     ·cases hh; exact ⟨g, by simp [*], Fr.refl s⟩
     ·cases hh; exact ⟨g, by simp [*], Fr.refl s⟩
     ·rename_i el r o n a b hk hv
      try simp only
      cases hz : Nat.beq n 0 with
      | true => rw [hz] at hh; cases hh; exact ⟨g, rfl, Fr.refl s⟩
      | false =>
       rw [hz] at hh
       simp only [cond_false] at hh ⊢
       obtain ⟨j, hj, hh⟩ := ti_ex hh
       rw [ti_some _ hj]
       split at hh
       ·rename_i h1 hst
        cases hh
        obtain ⟨g1, e1, e2⟩ := storeB_fr s hst
        exact ⟨g1, by rw [e1], e2⟩
       ·cases hh
     ·cases hh
    ·cases hh
   ·split at hh
    ·rename_i m k t ts ha ht
     unfold deleteH at hh ⊢
     obtain ⟨i, hi, hh⟩ := ti_ex hh
     rw [ti_some _ hi]
     split at hh
     ·rename_i kt et hk
      try simp only
      obtain ⟨ki, hki, hh⟩ := ti_ex hh
      rw [ti_some _ hki]
      split at hh
      ·rename_i r hm
       split at hh
       ·rename_i es c hg
        simp only [s.2 _ _ hg]
        split at hh
        ·rename_i n w' hf
         cases hh
         try simp only [hf]
         exact ⟨_, rfl, fr_put s hg _⟩
        ·rename_i hf
         cases hh
         try simp only [hf]
         exact ⟨g, rfl, Fr.refl s⟩
        ·cases hh
       ·cases hh
      ·cases hh
     ·cases hh
    ·cases hh
   ·split at hh
    ·rename_i u n t t' ha ht
     unfold unsafeStrH at hh ⊢
     split at hh
     ·cases hh; exact ⟨g, rfl, Fr.refl s⟩
     ·cases hh; exact ⟨g, rfl, Fr.refl s⟩
     ·rename_i r k _ _ _
      obtain ⟨i, hi, hh⟩ := ti_ex hh
      simp only [ti_some _ hi]
      split at hh
      ·rename_i el hk
       obtain ⟨q, hq, hh⟩ := ti_ex hh
       simp only [ti_some _ hq]
       split at hh
       ·rename_i l ty own hg
        simp only [s.2 _ _ hg]
        cases hb2 : (own && Nat.beq ty el && Nat.beq q.sz 1 && Nat.ble k 1099511627776) with
        | false => rw [hb2] at hh; cases hh
        | true =>
         rw [hb2] at hh
         simp only [cond_true] at hh ⊢
         split at hh
         ·rename_i vs hvs
          split at hh
          ·rename_i bs hbs
           simp only [T.seq_eq, Option.some.injEq, Prod.mk.injEq] at hh ⊢
           obtain ⟨rfl, rfl⟩ := hh
           exact ⟨_, ⟨rfl, rfl⟩, fr_put s hg _⟩
          ·cases hh
         ·cases hh
       ·cases hh
      ·cases hh
     ·cases hh
    ·cases hh
   ·cases hh
  ·cases hh
 ·cases hh
def CallFr (call : FuncId → List V → H → Option (V × H)) : Prop := ∀ f args h v h' g, call f args h = some (v, h') → Sub h g → ∃ g', call f args g = some (v, g') ∧ Fr h g h' g'
variable {call : FuncId → List V → H → Option (V × H)}
theorem opN_fr {e : Env} {h g : H} (s : Sub h g) {o : Oper} : opN x e g.next o = opN x e h.next o := by rw [s.1]
theorem op1_fr (C : CallFr call) {e : Env} {h g h' : H} (s : Sub h g) {o : Oper} {v : V} (hh : op1 x call e h o = some (v, h')) : ∃ g', op1 x call e g o = some (v, g') ∧ Fr h g h' g' ∧ (cls x o = .n → g'.mem.get g.next = h'.mem.get h.next) := by
 unfold op1 at hh ⊢
 split at hh
 ·rename_i hc
  try simp only [hc]
  split at hh
  ·rename_i w hw
   cases hh
   exact ⟨g, by try simp only [hw], Fr.refl s, (fun e => by cases e)⟩
  ·cases hh
 ·rename_i hc
  try simp only [hc]
  split at hh
  ·rename_i w hw
   cases hh
   exact ⟨g, by rw [opR_mono s.2 hw], Fr.refl s, (fun e => by cases e)⟩
  ·cases hh
 ·rename_i hc
  try simp only [hc]
  split at hh
  ·rename_i b w hw
   rw [opN_fr s, hw]
   simp only [newB_eq, Option.some.injEq, Prod.mk.injEq] at hh ⊢
   obtain ⟨rfl, rfl⟩ := hh
   exact ⟨_, ⟨rfl, rfl⟩, fr_new s b, fun _ => by rw [T.get_put, T.get_put, if_pos rfl, if_pos rfl]⟩
  ·cases hh
 ·rename_i hc
  try simp only [hc]
  obtain ⟨g', e1, e2⟩ := opH_fr s hh
  exact ⟨g', e1, e2, (fun e => by cases e)⟩
 ·rename_i hc
  try simp only [hc]
  split at hh
  ·rename_i c ho
   split at hh
   ·rename_i f hf
    split at hh
    ·rename_i fn caps hv
     obtain ⟨g', e1, e2⟩ := C _ _ _ _ _ _ hh s
     exact ⟨g', by simp only [e1], e2, (fun e => by cases e)⟩
    ·cases hh
   ·cases hh
  ·cases hh
theorem seqR_fr (C : CallFr call) {ops : List Oper} : ∀ (l : List Oper) {e e' : Env} {h g h' : H}, Sub h g → seqR x call ops l e h = some (e', h') → ∃ g', seqR x call ops l e g = some (e', g') ∧ Fr h g h' g'
 | [], e, e', h, g, h', s, hh => by
  cases hh
  exact ⟨g, rfl, Fr.refl s⟩
 | o :: l, e, e', h, g, h', s, hh => by
  simp only [seqR] at hh ⊢
  cases hw : wantA e ops o with
  | false =>
   rw [hw] at hh
   simp only [cond_false, T.seq_eq] at hh ⊢
   exact seqR_fr C l s hh
  | true =>
   rw [hw] at hh
   simp only [cond_true] at hh ⊢
   split at hh
   ·rename_i v h1 h2
    obtain ⟨g1, e1, f1, _⟩ := op1_fr C s h2
    rw [e1]
    simp only [fV_eq, T.seq_eq] at hh ⊢
    obtain ⟨g', e2, f2⟩ := seqR_fr C l f1.1 hh
    exact ⟨g', e2, f1.trans f2⟩
   ·cases hh
inductive SubL : List (Nat × H) → List (Nat × H) → Prop where
 | nil : SubL [] []
 | cons {i : Nat} {h g : H} {l m : List (Nat × H)} (s : Sub h g) (t : SubL l m) : SubL ((i, h) :: l) ((i, g) :: m)
theorem drawR_fr (C : CallFr call) {ops : List Oper} : ∀ (l : List Oper) {ix : Nat} {e e' : Env} {h g h' : H} {en en' : T B} {rs rs' : List Rec} {hs hs' gs : List (Nat × H)}, Sub h g → SubL hs gs → drawR x call ops l ix e h en rs hs = some (e', h', en', rs', hs') →
  ∃ g' gs', drawR x call ops l ix e g en rs gs = some (e', g', en', rs', gs') ∧ Fr h g h' g' ∧ SubL hs' gs'
 | [], ix, e, e', h, g, h', en, en', rs, rs', hs, hs', gs, s, sl, hh => by
  cases hh
  exact ⟨g, gs, rfl, Fr.refl s, sl⟩
 | o :: l, ix, e, e', h, g, h', en, en', rs, rs', hs, hs', gs, s, sl, hh => by
  simp only [drawR] at hh ⊢
  cases hw : wantA e ops o with
  | false =>
   rw [hw] at hh
   simp only [cond_false, T.seq_eq] at hh ⊢
   exact drawR_fr C l s sl hh
  | true =>
   rw [hw] at hh
   simp only [cond_true] at hh ⊢
   split at hh
   ·rename_i v h1 h2
    obtain ⟨g1, e1, f1, hn⟩ := op1_fr C s h2
    rw [e1]
    simp only [fV_eq, T.seq_eq] at hh ⊢
    cases hc : cls x o with
    | p =>
     rw [hc] at hh
     obtain ⟨g', gs', e2, f2, f3⟩ := drawR_fr C l f1.1 sl hh
     exact ⟨g', gs', e2, f1.trans f2, f3⟩
    | r =>
     rw [hc] at hh
     obtain ⟨g', gs', e2, f2, f3⟩ := drawR_fr C l f1.1 sl hh
     exact ⟨g', gs', e2, f1.trans f2, f3⟩
    | n =>
     rw [hc] at hh
     simp only [T.seq_eq] at hh ⊢
     rw [hn hc, s.1]
     obtain ⟨g', gs', e2, f2, f3⟩ := drawR_fr C l f1.1 sl hh
     exact ⟨g', gs', e2, f1.trans f2, f3⟩
    | h =>
     rw [hc] at hh
     obtain ⟨g', gs', e2, f2, f3⟩ := drawR_fr C l f1.1 (SubL.cons f1.1 sl) hh
     exact ⟨g', gs', e2, f1.trans f2, f3⟩
    | call =>
     rw [hc] at hh
     obtain ⟨g', gs', e2, f2, f3⟩ := drawR_fr C l f1.1 (SubL.cons f1.1 sl) hh
     exact ⟨g', gs', e2, f1.trans f2, f3⟩
   ·cases hh
theorem again_fr {en : T B} {r : Rec} {h g : H} (s : Sub h g) (hh : stands.again x en r h = true) : stands.again x en r g = true := by
 unfold stands.again at hh ⊢
 split at hh
 ·rename_i v hv
  rw [opR_mono (g' := fun k => bif Nat.blt k g.next then g.mem.get k else en.get k) (fun k b hb => ?_) hv]
  ·exact hh
  ·rw [s.1]
   cases hlt : Nat.blt k h.next with
   | true => rw [hlt] at hb; exact s.2 _ _ hb
   | false => rw [hlt] at hb; exact hb
 ·cases hh
theorem okAt_fr {ps : List Nat} {en : T B} {r : Rec} {nx : Option Nat} {h g : H} (s : Sub h g) (hh : stands.okAt x ps en r nx h = true) : stands.okAt x ps en r nx g = true := by
 unfold stands.okAt at hh ⊢
 cases nx with
 | none => exact again_fr s hh
 | some i =>
  simp only at hh ⊢
  cases hb : (ps.getD r.ix 0).testBit i with
  | true => rfl
  | false => rw [hb] at hh; exact again_fr s hh
theorem stands_fr {ps : List Nat} {en : T B} {h0 g0 : H} (s0 : Sub h0 g0) {r : Rec} : ∀ {hs gs : List (Nat × H)}, SubL hs gs → ∀ {nx : Option Nat}, stands x ps en h0 r nx hs = true → stands x ps en g0 r nx gs = true
 | _, _, .nil, nx, hh => by
  simp only [stands] at hh ⊢
  exact okAt_fr s0 hh
 | _, _, .cons (i := i) s t, nx, hh => by
  simp only [stands, Bool.and_eq_true] at hh ⊢
  refine ⟨?_, stands_fr s0 t hh.2⟩
  cases hb : (ps.getD i 0).testBit r.ix with
  | true => rfl
  | false =>
   have := hh.1
   rw [hb] at this
   exact okAt_fr s this
theorem region_fr (C : CallFr call) {ops : List Oper} {d : Bool} {e e' : Env} {q : Ex} {h g h' : H} (s : Sub h g) (hh : region x call ops d e h = some (q, e', h')) : ∃ g', region x call ops d e g = some (q, e', g') ∧ Fr h g h' g' := by
 unfold region at hh ⊢
 cases d with
 | false =>
  simp only [cond_false] at hh ⊢
  split at hh
  ·rename_i e1 h1 h2
   cases hh
   obtain ⟨g', e2, f⟩ := seqR_fr C ops s h2
   exact ⟨g', by rw [e2], f⟩
  ·cases hh
 | true =>
  simp only [cond_true] at hh ⊢
  split at hh
  ·rename_i e1 h1 en rs hs h2
   obtain ⟨g', gs', e2, f, sl⟩ := drawR_fr C ops s .nil h2
   rw [e2]
   simp only at hh ⊢
   cases ha : (rs.all fun r => stands x (preds ops []) en h r none hs) with
   | false => rw [ha] at hh; cases hh
   | true =>
    rw [ha] at hh
    cases hh
    have : (rs.all fun r => stands x (preds ops []) en g r none gs') = true := by
     rw [List.all_eq_true] at ha ⊢
     intro r hr
     exact stands_fr s sl (ha r hr)
    rw [this]
    exact ⟨g', rfl, f⟩
  ·cases hh
theorem loopN_fr {body : Env → H → Option (Ex × Env × H)} (hb : ∀ (e e' : Env) (h g h' : H) (q : Ex), Sub h g → body e h = some (q, e', h') → ∃ g', body e g = some (q, e', g') ∧ Fr h g h' g') : ∀ (k : Nat) {e e' : Env} {q : Ex} {h g h' : H}, Sub h g → loopN body k e h = some (q, e', h') → ∃ g', loopN body k e g = some (q, e', g') ∧ Fr h g h' g'
 | 0, e, e', q, h, g, h', s, hh => by cases hh
 | k + 1, e, e', q, h, g, h', s, hh => by
  simp only [loopN] at hh ⊢
  split at hh
  ·rename_i e1 h1 h2
   obtain ⟨g1, e2, f1⟩ := hb _ _ _ _ _ _ s h2
   rw [e2]
   obtain ⟨g', e3, f2⟩ := loopN_fr hb k f1.1 hh
   exact ⟨g', e3, f1.trans f2⟩
  ·rename_i id e1 h1 h2
   cases hh
   obtain ⟨g1, e2, f1⟩ := hb _ _ _ _ _ _ s h2
   exact ⟨g1, by rw [e2], f1⟩
  ·rename_i e1 h1 h2
   cases hh
   obtain ⟨g1, e2, f1⟩ := hb _ _ _ _ _ _ s h2
   exact ⟨g1, by rw [e2], f1⟩
  ·cases hh
theorem code_fr (C : CallFr call) (k : Nat) : ∀ (c : Code) {e e' : Env} {q : Ex} {h g h' : H}, Sub h g → code x call k c e h = some (q, e', h') → ∃ g', code x call k c e g = some (q, e', g') ∧ Fr h g h' g' := by
 intro c
 induction c with
 | skip => intro e e' q h g h' s hh; cases hh; exact ⟨g, rfl, Fr.refl s⟩
 | exit id => intro e e' q h g h' s hh; cases hh; exact ⟨g, rfl, Fr.refl s⟩
 | ret => intro e e' q h g h' s hh; cases hh; exact ⟨g, rfl, Fr.refl s⟩
 | region id ops d => intro e e' q h g h' s hh; exact region_fr C s hh
 | seq a b iha ihb =>
  intro e e' q h g h' s hh
  simp only [code] at hh ⊢
  split at hh
  ·rename_i e1 h1 h2
   obtain ⟨g1, e2, f1⟩ := iha s h2
   rw [e2]
   obtain ⟨g', e3, f2⟩ := ihb f1.1 hh
   exact ⟨g', e3, f1.trans f2⟩
  ·rename_i id e1 h1 h2
   cases hh
   obtain ⟨g1, e2, f1⟩ := iha s h2
   exact ⟨g1, by rw [e2], f1⟩
  ·rename_i e1 h1 h2
   cases hh
   obtain ⟨g1, e2, f1⟩ := iha s h2
   exact ⟨g1, by rw [e2], f1⟩
  ·cases hh
 | cond t a b iha ihb =>
  intro e e' q h g h' s hh
  simp only [code] at hh ⊢
  split at hh
  ·exact iha s hh
  ·exact ihb s hh
  ·cases hh
 | block id c ih =>
  intro e e' q h g h' s hh
  simp only [code] at hh ⊢
  split at hh
  ·rename_i e1 h1 h2
   cases hh
   obtain ⟨g1, e2, f1⟩ := ih s h2
   exact ⟨g1, by rw [e2], f1⟩
  ·rename_i id' e1 h1 h2
   obtain ⟨g1, e2, f1⟩ := ih s h2
   rw [e2]
   simp only
   cases hi : Nat.beq id' id with
   | true => rw [hi] at hh; cases hh; exact ⟨g1, rfl, f1⟩
   | false => rw [hi] at hh; cases hh; exact ⟨g1, rfl, f1⟩
  ·rename_i e1 h1 h2
   cases hh
   obtain ⟨g1, e2, f1⟩ := ih s h2
   exact ⟨g1, by rw [e2], f1⟩
  ·cases hh
 | loop c ih =>
  intro e e' q h g h' s hh
  simp only [code] at hh ⊢
  exact loopN_fr (body := code x call k c) (fun _ _ _ _ _ _ s hh => ih s hh) k s hh
 | _ => intro e e' q h g h' s hh; cases hh
theorem resL_fr {e : Env} {h g : H} (s : Sub h g) : ∀ {l : List ResultVar} {vs : List V}, resL x e h l = some vs → resL x e g l = some vs
 | [], vs, hh => hh
 | r :: l, vs, hh => by
  simp only [resL] at hh ⊢
  split at hh
  ·rename_i v vs1 h1 h2
   have h3 : res1 x e g r = some v := by
    cases r with
    | tmp t => exact h1
    | cell a t =>
     simp only [res1] at h1 ⊢
     obtain ⟨i, hi, h1⟩ := ti_ex h1
     rw [ti_some _ hi]
     split at h1
     ·rename_i r o hv
      unfold loadB at h1 ⊢
      split at h1
      ·rename_i l' ty own hg
       rw [s.2 _ _ hg]; exact h1
      ·cases h1
     ·cases h1
   rw [h3, resL_fr s h2]
   exact hh
  ·cases hh
theorem sem_fr (k : Nat) : ∀ n, CallFr (sem x k n)
 | 0, f, args, h, v, h', g, hh, s => by cases hh
 | n + 1, f, args, h, v, h', g, hh, s => by
  simp only [sem] at hh ⊢
  split at hh
  ·cases hh
  ·rename_i fn hf
   cases hok : fnOk x fn with
   | false =>
    rw [hok] at hh
    simp only [cond_false] at hh ⊢
    unfold extS at hh ⊢
    split at hh
    ·cases hh
    ·cases hb : (!(fn.name == "runtime.NumGoroutine") && (Extern.findNext fn).isNone) with
     | false => rw [hb] at hh; cases hh
     | true =>
      rw [hb] at hh
      simp only [cond_true] at hh ⊢
      split at hh
      ·rename_i w hw
       cases hh
       exact ⟨g, by simp only [*], Fr.refl s⟩
      ·split at hh
       ·rename_i w hw
        cases hh
        refine ⟨g, ?_, Fr.refl s⟩
        have : extM x.ml fn.name args g.mem.get = some v := by
         unfold extM at hw ⊢
         cases hn : (fn.name == "internal/bytealg.IndexString") with
         | false => rw [hn] at hw; cases hw
         | true =>
          rw [hn] at hw
          simp only [cond_true] at hw ⊢
          split at hw
          ·split at hw
           ·rename_i hg
            simp only [s.2 _ _ hg]
            exact hw
           ·cases hw
          ·cases hw
        simp only [*]
       ·cases hh
   | true =>
    rw [hok] at hh
    simp only [cond_true] at hh ⊢
    split at hh
    ·cases hh
    ·rename_i c hc
     have done : ∀ {q : Ex} {e : Env} {h1 : H}, code x (sem x k n) k c (env0 args 0 .l) h = some (q, e, h1) → (match resL x e h1 fn.results.toList with
       | some vs => some (resV vs, h1)
       | none => none) = some (v, h') → ∃ g1, code x (sem x k n) k c (env0 args 0 .l) g = some (q, e, g1) ∧ (match resL x e g1 fn.results.toList with
       | some vs => some (resV vs, g1)
       | none => none) = some (v, g1) ∧ Fr h g h' g1 := by
      intro q e h1 h2 h3
      obtain ⟨g1, e2, f1⟩ := code_fr (sem_fr k n) k c s h2
      split at h3
      ·rename_i vs hv
       cases h3
       exact ⟨g1, e2, by rw [resL_fr f1.1 hv], f1⟩
      ·cases h3
     split at hh
     ·rename_i e h1 h2
      obtain ⟨g1, e2, e3, f⟩ := done h2 hh
      exact ⟨g1, by rw [e2]; exact e3, f⟩
     ·rename_i e h1 h2
      obtain ⟨g1, e2, e3, f⟩ := done h2 hh
      exact ⟨g1, by rw [e2]; exact e3, f⟩
     ·cases hh
end
end Go.Am
namespace Go.Am
open Go.ChangeShapes Go.WideShapes Go.ChangeAt Go.RowKit
abbrev Tb := List (Nat × IntKind × List Int)
def lay : Tb → T B
 | [] => .l
 | (g, k, zs) :: l => (lay l).put g (some (.c (zs.map (V.i k)) 0 false))
theorem lay_get : ∀ {l : Tb} {r : Nat} {b : B}, (lay l).get r = some b → ∃ x ∈ l, r = x.1 ∧ b = .c (x.2.2.map (V.i x.2.1)) 0 false
 | [], r, b, h => by simp [lay, T.get] at h
 | (g, k, zs) :: l, r, b, h => by
  simp only [lay, T.get_put] at h
  by_cases e : g = r
  ·rw [if_pos e] at h
   cases h
   exact ⟨_, List.mem_cons_self, e.symm, rfl⟩
  ·rw [if_neg e] at h
   obtain ⟨x, h1, h2⟩ := lay_get h
   exact ⟨x, List.mem_cons_of_mem _ h1, h2⟩
def LaidAt (w : World) (l : Tb) : Prop := ∀ x ∈ l, x.1 < 16 ∧ x.2.2 ≠ [] ∧ ∀ i z, x.2.2[i]? = some z → w.cell? ⟨x.1, i, none⟩ = some (.int x.2.1 z)
theorem LaidAt.nil (w : World) : LaidAt w [] := fun x h => by cases h
theorem LaidAt.cons {w : World} {P : Program} {name : String} {k : IntKind} {zs : List Int} {g : Nat} {l : Tb} (h : Lib.TabIs P w name k zs) (hg : P.globalNamed name = some g) (h1 : g < 16) (h2 : zs ≠ []) (hl : LaidAt w l) : LaidAt w ((g, k, zs) :: l) := by
 intro x hx
 rcases List.mem_cons.1 hx with rfl | hx
 ·refine ⟨h1, h2, fun i z hz => ?_⟩
  have := World.var?_cell hg h i
  rw [this]
  simp [hz]
 ·exact hl x hx
theorem laid_lt {w : World} {c o : Nat} {v : Value} (h : w.cell? ⟨c, o, none⟩ = some v) : c < w.heap.size := by
 unfold World.cell? at h
 split at h
 ·rename_i cs e f hc
  exact (Array.getElem?_eq_some_iff.1 hc).1
 ·cases h
theorem hrel_laid (P : Program) {w : World} {l : Tb} (h : LaidAt w l) (n : Nat) (hn : 16 ≤ n) : HRel P w.heap.size j0 ⟨n, lay l⟩ w := by
 refine HRel.start P w n (lay l) hn fun r b hb => ?_
 obtain ⟨x, hx, rfl, rfl⟩ := lay_get hb
 obtain ⟨h1, h2, h3⟩ := h x hx
 refine ⟨h1, ?_, _, _, rfl, fun i u hu => ?_⟩
 ·cases hz : x.2.2 with
  | nil => exact absurd hz h2
  | cons z zs => exact laid_lt (h3 0 z (by rw [hz]; rfl))
 ·rw [List.getElem?_map] at hu
  obtain ⟨z, hz, rfl⟩ := Option.map_eq_some_iff.1 hu
  exact ⟨_, by rw [Nat.zero_add]; exact h3 i z hz, rfl⟩
theorem tabIs_of_reads {P : Program} {W : World} {name : String} {k : IntKind} {zs : List Int} {g : Nat} {t e : TypeId} {n : Nat}
  (hg : P.globalNamed name = some g) (hty : (P.globals[g]?).map (·.type) = some t) (ht : P.underlying t = some (.array n e)) (he : P.underlying e = some (.int k)) (hce : P.cellsOf e = 1) (hct : P.cellsOf t = n)
  (h : Lib.VarReads P W name (Lib.tabData k zs)) : Lib.TabIs P W name k zs := by
 obtain ⟨g', t', cs, fuel, p, hg', ht', hvar, hd⟩ := h
 obtain rfl := Option.some.inj (hg.symm.trans hg')
 obtain rfl := Option.some.inj (hty.symm.trans ht')
 unfold Lib.TabIs
 rw [hvar, ← Lib.cells_of_tab ht he hce hct hd]
def runL (P : Program) (k n : Nat) (f : FuncId) (args : List V) (l : Tb) : Option V := (sem (mkX P) k n f args ⟨16, lay l⟩).map (·.1)
theorem calls_laid {P : Program} {k n m : Nat} {f : FuncId} {args : List V} {h' : H} {l : Tb} (hm : 16 ≤ m) (hh : sem (mkX P) k n f args ⟨m, lay l⟩ = some (.b true, h')) (w : World) (hl : LaidAt w l) {args' : List Value} (ha : rens j0 args = some args') :
  Calls P f ⟨args'⟩ w fun e w' => e = .returned (.bool true) ∧ Below w.heap.size w w' := by
 refine Calls.mono (sem_calls ⟨_, rfl⟩ hh (hrel_laid P hl m hm) ha (fresh_j0 hm)) ?_
 rintro e w' ⟨v', j', rfl, s, hv⟩
 rw [inv_b hv]
 exact ⟨rfl, s.below (hrel_laid P hl m hm)⟩
theorem calls_runL {P : Program} {k n : Nat} {f : FuncId} {args : List V} {l : Tb} (h : isTrue (runL P k n f args l) = true) (w : World) (hl : LaidAt w l) {args' : List Value} (ha : rens j0 args = some args') :
  Calls P f ⟨args'⟩ w fun e w' => e = .returned (.bool true) ∧ Below w.heap.size w w' := by
 unfold runL at h
 cases e : sem (mkX P) k n f args ⟨16, lay l⟩ with
 | none => rw [e] at h; cases h
 | some p =>
  obtain ⟨v, h'⟩ := p
  rw [e] at h
  simp only [Option.map_some, isTrue] at h
  split at h
  ·rename_i hv
   cases hv
   exact calls_laid (Nat.le_refl _) e w hl ha
  ·cases h
end Go.Am
namespace Go.Am
theorem handed_and_shaped {H : Type} {enc : TypeId × Value → H} {a : Assume} {C : Checked} {os : Os} {f : FuncId} {fn : Func} {s : ChangeSpec} {conds : List PathCond} {apart fresh handsOn again : Bool} {X : World → Array Value → Prop}
  (hX : ∀ (w w' : World) (args : Array Value), w.heap = w'.heap → X w args → X w' args)
  (own : ownKnob C.prog.godebug = none) (started : os.Started) (noInit : C.prog.inits.idxOf? f = none) (hfn : C.prog.funcs[f]? = some fn)
  (witness : ∃ (w : World) (tape : Tape) (i : Input), w.os = os ∧ (w.forCall tape i).Shaped C.prog ∧ i.vars = [] ∧ Input.okWide C.prog (w.forCall tape i) .any w.heap.size f i ∧
   ((s.pre enc C.prog fn conds apart (w.forCall tape i).memory i.args ∧ X (w.forCall tape i).memory i.args) ∧ sizedMet enc C.prog fn (OpenSpec.ofChange s) apart (w.forCall tape i).memory i.args) ∧ a.holds C.prog (lone (Frame.enter C.prog f i.args .normal) [] (w.forCall tape i)))
  (contract : ∀ (W : World) (base : Nat) (args : Array Value) (ds gs : List (DataW H)) (before : List MemPlace), W.ShapedOpen C.prog →
   (∀ (j : Nat) t v, fn.params[j]? = some t → args[j]? = some v → Value.okWide C.prog W .any base t v) →
   DataW.Whole enc C.prog fn.params.toList s.vars apart W args.toList ds gs before → X W args →
   Calls C.prog f args W fun e W' => ∃ v, e = .returned v ∧ s.post enc C.prog fn apart fresh handsOn again W args v W') :
  ReturnsInHanded a C os f .any (fun w args => (s.pre enc C.prog fn conds apart w args ∧ X w args) ∧ sizedMet enc C.prog fn (OpenSpec.ofChange s) apart w args) (s.post enc C.prog fn apart fresh handsOn again) := by
 refine returnsInHanded_of_calls own started noInit witness ?_
 intro w tape i _ hs _ hok hpre _
 obtain ⟨_, _, _, fn', hfn', _, _, _, _, hval⟩ := hok
 obtain rfl : fn' = fn := Option.some.inj (hfn'.symm.trans hfn)
 obtain ⟨⟨⟨ds, gs, before, hw, _⟩, hx⟩, _⟩ := hpre
 refine (contract (w.forCall tape i) w.heap.size i.args ds gs before hs hval (DataW.Whole.of_heap (w' := w.forCall tape i) (by rfl) hw) (hX _ _ _ (by rfl) hx)).mono fun e W' ⟨v, he, hp⟩ => ?_
 subst he
 exact ChangeSpec.post_blind hp
end Go.Am
