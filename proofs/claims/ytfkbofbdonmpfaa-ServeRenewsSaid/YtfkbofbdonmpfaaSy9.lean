/- The machine with names for integers: regions, code, calls. -/
import Derived.Test.YtfkbofbdonmpfaaSy8
set_option linter.unusedSimpArgs false
set_option linter.unusedVariables false
set_option linter.unusedSectionVars false
set_option linter.unnecessarySimpa false
namespace Go.Am

def CallOk (ρ : Nat → Int) (callY : FuncId → List V → H → M (V × H)) (call : FuncId → List V → H → Option (V × H)) : Prop :=
  ∀ f args h s v h' s', Runs ρ (callY f args h) s (v, h') s' → call f (vals ρ args) (valH ρ h) = some (val ρ v, valH ρ h')

section
variable {ρ : Nat → Int} {s s' : Sy} {x : X} {callY : FuncId → List V → H → M (V × H)} {call : FuncId → List V → H → Option (V × H)}

def bOf : V → Option Bool
  | .b w => some w
  | _ => none

theorem bOf_val (v : V) : bOf (val ρ v) = bOf v := by
  cases v <;> simp only [val, bOf]
  rename_i fn caps
  cases Nat.blt fn nameB <;> rfl

theorem yieldA_eq (e : Env) (ops : List Oper) (j : Nat) : yieldA e ops j = match ops[j]? with
    | some o => match o.dst with
      | some d => bOf (gv e d)
      | none => none
    | none => none := by
  unfold yieldA
  cases ops[j]? with
  | none => rfl
  | some o =>
    simp only
    cases o.dst with
    | none => rfl
    | some d => simp only; unfold bOf; rfl

theorem wantA_val (e : Env) (ops : List Oper) (o : Oper) : wantA (valE ρ e) ops o = wantA e ops o := by
  unfold wantA
  split
  · rfl
  · rename_i j w _
    have : yieldA (valE ρ e) ops j = yieldA e ops j := by
      rw [yieldA_eq, yieldA_eq]
      cases ops[j]? with
      | none => rfl
      | some o =>
        simp only
        cases o.dst with
        | none => rfl
        | some d => simp only [gv_val, bOf_val]
    rw [this]

theorem putD_val (e : Env) (d : Option Tmp) (v : V) : valE ρ (putD e d v) = putD (valE ρ e) d (val ρ v) := by
  cases d with
  | none => rfl
  | some d => simp only [putD, valE, T.put_mp, Option.map_some]

theorem undef_val : val ρ undefV = undefV := by simp [undefV, val, vals]

theorem op1Y_ok (C : CallOk ρ callY call) (hx : XClean x) {e : Env} {h h' : H} {o : Oper} {v : V} (hc : opClean o = true) (hh : Runs ρ (op1Y x callY e h o) s (v, h') s') : op1 x call (valE ρ e) (valH ρ h) o = some (val ρ v, valH ρ h') := by
  have hc0 := hc
  unfold opClean at hc0
  rw [Bool.and_eq_true] at hc0
  have hc1 : ∀ u ∈ o.op.operands.toList, opdClean u = true := fun u hu => List.all_eq_true.1 hc0.1 u hu
  unfold op1Y at hh
  unfold op1
  cases hcls : cls x o <;> rw [hcls] at hh <;> simp only at hh ⊢
  · obtain ⟨w, s1, h1, h2⟩ := runs_bind hh
    obtain ⟨h3, _⟩ := runs_pure h2
    simp only [Prod.mk.injEq] at h3
    obtain ⟨rfl, rfl⟩ := h3
    simp only [opPY_ok hx hc h1]
  · split at hh
    · rename_i w hw
      obtain ⟨h3, _⟩ := runs_pure hh
      simp only [Prod.mk.injEq] at h3
      obtain ⟨rfl, rfl⟩ := h3
      have := opRY_ok (ρ := ρ) hx hc hw
      simp only [gval_mem, this]
    · exact (runs_fail hh).elim
  · obtain ⟨p, s1, h1, h2⟩ := runs_bind hh
    have h3 := opNY_ok hx hc h1
    simp only [newB_eq] at h2
    obtain ⟨h4, _⟩ := runs_pure h2
    simp only [Prod.mk.injEq] at h4
    obtain ⟨rfl, rfl⟩ := h4
    have hn : (valH ρ h).next = h.next := rfl
    simp only [hn, h3, newB_eq, Option.some.injEq, Prod.mk.injEq, true_and]
    exact new_val h p.1
  · exact opHY_ok hx hc hh
  · split at hh
    · rename_i c hop
      split at hh
      · rename_i f hf
        split at hh
        · rename_i fn caps he
          cases hb : Nat.blt fn nameB with
          | false => rw [hb] at hh; exact (runs_fail hh).elim
          | true =>
            rw [hb] at hh
            simp only [cond_true] at hh
            rw [hop] at hc1
            simp only [Op.operands, Call.operands, hf] at hc1
            have hfc := hc1 f (by simp)
            have ha : ∀ u ∈ c.args.toList, opdClean u = true := fun u hu => hc1 u (by simp; right; simpa using hu)
            have := C _ _ _ _ _ _ _ hh
            simp only [hop, hf, ev_val hfc, he, val, hb, cond_true, evs_val _ ha]
            rw [← vals_append]
            exact this
        · exact (runs_fail hh).elim
      · exact (runs_fail hh).elim
    · exact (runs_fail hh).elim

theorem seqRY_ok (C : CallOk ρ callY call) (hx : XClean x) {ops : List Oper} : ∀ (l : List Oper) {e e' : Env} {h h' : H} {s s' : Sy}, (∀ o ∈ l, opClean o = true) → Runs ρ (seqRY x callY ops l e h) s (e', h') s' → seqR x call ops l (valE ρ e) (valH ρ h) = some (valE ρ e', valH ρ h')
  | [], e, e', h, h', s, s', _, hh => by
    simp only [seqRY] at hh
    obtain ⟨h3, _⟩ := runs_pure hh
    simp only [Prod.mk.injEq] at h3
    obtain ⟨rfl, rfl⟩ := h3
    rfl
  | o :: l, e, e', h, h', s, s', ho, hh => by
    simp only [seqRY] at hh
    simp only [seqR, wantA_val]
    cases hw : wantA e ops o with
    | true =>
      rw [hw] at hh
      simp only [cond_true] at hh ⊢
      obtain ⟨⟨v, h1⟩, s1, h2, h3⟩ := runs_bind hh
      simp only [fV_eq, T.seq_eq] at h3
      have ih := seqRY_ok C hx l (fun o ho' => ho o (by simp [ho'])) h3
      rw [op1Y_ok C hx (ho o (by simp)) h2]
      simp only [fV_eq, T.seq_eq, ← putD_val, ih]
    | false =>
      rw [hw] at hh
      simp only [cond_false, T.seq_eq] at hh ⊢
      have ih := seqRY_ok C hx l (fun o ho' => ho o (by simp [ho'])) hh
      rw [putD_val, undef_val] at ih
      exact ih

def valR (ρ : Nat → Int) (r : Rec) : Rec := ⟨r.ix, r.o, valE ρ r.e, val ρ r.v⟩
def valHs (ρ : Nat → Int) : List (Nat × H) → List (Nat × H)
  | [] => []
  | (i, h) :: l => (i, valH ρ h) :: valHs ρ l

theorem drawRY_ok (C : CallOk ρ callY call) (hx : XClean x) {ops : List Oper} : ∀ (l : List Oper) (ix : Nat) {e e' : Env} {h h' : H} {en en' : T B} {rs rs' : List Rec} {hs hs' : List (Nat × H)} {s s' : Sy}, (∀ o ∈ l, opClean o = true) → (∀ r ∈ rs, opClean r.o = true) →
    Runs ρ (drawRY x callY ops l ix e h en rs hs) s (e', h', en', rs', hs') s' →
    drawR x call ops l ix (valE ρ e) (valH ρ h) (en.mp (valB ρ)) (rs.map (valR ρ)) (valHs ρ hs) = some (valE ρ e', valH ρ h', en'.mp (valB ρ), rs'.map (valR ρ), valHs ρ hs') ∧ ∀ r ∈ rs', opClean r.o = true
  | [], ix, e, e', h, h', en, en', rs, rs', hs, hs', s, s', _, hr, hh => by
    simp only [drawRY] at hh
    obtain ⟨h3, _⟩ := runs_pure hh
    simp only [Prod.mk.injEq] at h3
    obtain ⟨rfl, rfl, rfl, rfl, rfl⟩ := h3
    exact ⟨rfl, hr⟩
  | o :: l, ix, e, e', h, h', en, en', rs, rs', hs, hs', s, s', ho, hr, hh => by
    simp only [drawRY] at hh
    simp only [drawR, wantA_val]
    have ho' : ∀ o ∈ l, opClean o = true := fun o h => ho o (by simp [h])
    cases hw : wantA e ops o with
    | true =>
      rw [hw] at hh
      simp only [cond_true] at hh ⊢
      obtain ⟨⟨v, h1⟩, s1, h2, h3⟩ := runs_bind hh
      simp only [fV_eq, T.seq_eq] at h3
      rw [op1Y_ok C hx (ho o (by simp)) h2]
      simp only [fV_eq, T.seq_eq, ← putD_val]
      cases hcl : cls x o <;> rw [hcl] at h3 <;> simp only at h3 ⊢
      · exact drawRY_ok C hx l (ix + 1) ho' hr h3
      · exact drawRY_ok C hx l (ix + 1) (rs := ⟨ix, o, e, v⟩ :: rs) ho' (fun r hr' => by
          rcases List.mem_cons.1 hr' with rfl | hr'
          · exact ho o (by simp)
          · exact hr r hr') h3
      · have := drawRY_ok C hx l (ix + 1) ho' hr h3
        rw [T.put_mp] at this
        have hm : (h1.mem.get h.next).map (valB ρ) = (valH ρ h1).mem.get (valH ρ h).next := by rw [mem_val]; rfl
        rw [hm] at this
        exact this
      · exact drawRY_ok C hx l (ix + 1) (hs := (ix, h1) :: hs) ho' hr h3
      · exact drawRY_ok C hx l (ix + 1) (hs := (ix, h1) :: hs) ho' hr h3
    | false =>
      rw [hw] at hh
      simp only [cond_false, T.seq_eq] at hh ⊢
      have ih := drawRY_ok C hx l (ix + 1) ho' hr hh
      rw [putD_val, undef_val] at ih
      exact ih

theorem beq_self (n : Nat) : Nat.beq n n = true := Nat.beq_refl n

mutual
theorem sameV_refl : ∀ v : V, sameV v v = true
  | .b x => by simp [sameV]
  | .i k n => by simp [sameV]
  | .s l => by simp [sameV]
  | .np | .ns | .nm | .nf | .ni => by simp [sameV]
  | .p r o => by simp only [sameV, beq_self, Bool.and_self]
  | .sl r o n c e => by simp only [sameV, beq_self, Bool.and_self, beq_self_eq_true]
  | .se r o p => by simp only [sameV, beq_self, Bool.and_self]
  | .ze r => by simp only [sameV, beq_self]
  | .m r => by simp only [sameV, beq_self]
  | .f g cs => by simp only [sameV, beq_self, sameVs_refl cs, Bool.and_self]
  | .ic t v => by simp only [sameV, beq_self, sameV_refl v, Bool.and_self]
  | .a l => by simp only [sameV, sameVs_refl l]
  | .t l => by simp only [sameV, sameVs_refl l]
theorem sameVs_refl : ∀ l : List V, sameVs l l = true
  | [] => by simp [sameVs]
  | v :: l => by simp only [sameVs, sameV_refl v, sameVs_refl l, Bool.and_self]
end

theorem againY_ok (hx : XClean x) {en : T B} {r : Rec} {h : H} {h0 : H} {ps : List Nat} (hr : opClean r.o = true) (ha : againY x en r h = true) : stands.again x (en.mp (valB ρ)) (valR ρ r) (valH ρ h) = true := by
  unfold againY at ha
  unfold stands.again
  split at ha
  · rename_i v hv
    have := opRY_ok (ρ := ρ) hx hr hv
    have hg : (fun k => bif Nat.blt k (valH ρ h).next then (valH ρ h).mem.get k else (en.mp (valB ρ)).get k) = gval ρ fun k => bif Nat.blt k h.next then h.mem.get k else en.get k := by
      funext k
      simp only [gval, mem_val, T.get_mp]
      show (bif Nat.blt k h.next then _ else _) = _
      cases Nat.blt k h.next <;> rfl
    rw [hg]
    simp only [valR, this]
    rw [sameV_eq _ _ ha]
    exact sameV_refl _
  · cases ha

theorem okAtY_ok (hx : XClean x) {en : T B} {r : Rec} {h : H} {ps : List Nat} {nx : Option Nat} (hr : opClean r.o = true) (ha : okAtY x ps en r nx h = true) : stands.okAt x ps (en.mp (valB ρ)) (valR ρ r) nx (valH ρ h) = true := by
  unfold okAtY at ha
  unfold stands.okAt
  split at ha
  · rename_i i
    simp only
    have e : (valR ρ r).ix = r.ix := rfl
    rw [e]
    cases hb : (ps.getD r.ix 0).testBit i with
    | true => rfl
    | false =>
      rw [hb] at ha
      exact againY_ok (h0 := h) (ps := ps) hx hr ha
  · exact againY_ok (h0 := h) (ps := ps) hx hr ha

theorem standsY_ok (hx : XClean x) {ps : List Nat} {en : T B} {h0 : H} {r : Rec} (hr : opClean r.o = true) : ∀ (hs : List (Nat × H)) (nx : Option Nat), standsY x ps en h0 r nx hs = true → stands x ps (en.mp (valB ρ)) (valH ρ h0) (valR ρ r) nx (valHs ρ hs) = true
  | [], nx, h => by
    simp only [standsY] at h
    simp only [valHs, stands]
    exact okAtY_ok hx hr h
  | (i, h1) :: hs, nx, h => by
    simp only [standsY, Bool.and_eq_true] at h
    simp only [valHs, stands, Bool.and_eq_true]
    refine ⟨?_, standsY_ok hx hr hs (some i) h.2⟩
    have e : (valR ρ r).ix = r.ix := rfl
    rw [e]
    cases hb : (ps.getD i 0).testBit r.ix with
    | true => rfl
    | false =>
      have := h.1
      rw [hb] at this
      exact okAtY_ok hx hr this

theorem regionY_ok (C : CallOk ρ callY call) (hx : XClean x) {ops : List Oper} {draw : Bool} {e e' : Env} {h h' : H} {q : Ex} (ho : ∀ o ∈ ops, opClean o = true) (hh : Runs ρ (regionY x callY ops draw e h) s (q, e', h') s') :
    region x call ops draw (valE ρ e) (valH ρ h) = some (q, valE ρ e', valH ρ h') := by
  unfold regionY at hh
  unfold region
  cases draw with
  | true =>
    simp only [cond_true] at hh ⊢
    obtain ⟨⟨e1, h1, en, rs, hs⟩, s1, h2, h3⟩ := runs_bind hh
    obtain ⟨d1, d2⟩ := drawRY_ok C hx ops 0 (rs := []) (hs := []) ho (by simp) h2
    simp only at h3
    cases ha : rs.all fun r => standsY x (preds ops []) en h r none hs with
    | false => rw [ha] at h3; exact (runs_fail h3).elim
    | true =>
      rw [ha] at h3
      obtain ⟨h4, _⟩ := runs_pure h3
      simp only [Prod.mk.injEq] at h4
      obtain ⟨rfl, rfl, rfl⟩ := h4
      have d3 : drawR x call ops ops 0 (valE ρ e) (valH ρ h) .l [] [] = _ := d1
      rw [d3]
      simp only
      have : ((rs.map (valR ρ)).all fun r => stands x (preds ops []) (en.mp (valB ρ)) (valH ρ h) r none (valHs ρ hs)) = true := by
        rw [List.all_eq_true]
        intro r hr
        obtain ⟨r0, hr0, rfl⟩ := List.mem_map.1 hr
        exact standsY_ok hx (d2 r0 hr0) hs none (List.all_eq_true.1 ha r0 hr0)
      rw [this]
      rfl
  | false =>
    simp only [cond_false] at hh ⊢
    obtain ⟨⟨e1, h1⟩, s1, h2, h3⟩ := runs_bind hh
    obtain ⟨h4, _⟩ := runs_pure h3
    simp only [Prod.mk.injEq] at h4
    obtain ⟨rfl, rfl, rfl⟩ := h4
    rw [seqRY_ok C hx ops ho h2]

theorem loopNY_ok {fY : Env → H → M (Ex × Env × H)} {f : Env → H → Option (Ex × Env × H)} (hf : ∀ {e e' h h' q s s'}, Runs ρ (fY e h) s (q, e', h') s' → f (valE ρ e) (valH ρ h) = some (q, valE ρ e', valH ρ h')) :
    ∀ (k : Nat) {e e' : Env} {h h' : H} {q : Ex} {s s' : Sy}, Runs ρ (loopNY fY k e h) s (q, e', h') s' → loopN f k (valE ρ e) (valH ρ h) = some (q, valE ρ e', valH ρ h')
  | 0, e, e', h, h', q, s, s', hh => (runs_fail hh).elim
  | k + 1, e, e', h, h', q, s, s', hh => by
    simp only [loopNY] at hh
    obtain ⟨⟨q1, e1, h1⟩, s1, h2, h3⟩ := runs_bind hh
    simp only [loopN, hf h2]
    cases q1 with
    | n => exact loopNY_ok hf k h3
    | x id =>
      obtain ⟨h4, _⟩ := runs_pure h3
      simp only [Prod.mk.injEq] at h4
      obtain ⟨rfl, rfl, rfl⟩ := h4
      rfl
    | r =>
      obtain ⟨h4, _⟩ := runs_pure h3
      simp only [Prod.mk.injEq] at h4
      obtain ⟨rfl, rfl, rfl⟩ := h4
      rfl

theorem codeY_ok (C : CallOk ρ callY call) (hx : XClean x) (k : Nat) : ∀ (c : Code) {e e' : Env} {h h' : H} {q : Ex} {s s' : Sy}, codeClean c = true → Runs ρ (codeY x callY k c e h) s (q, e', h') s' → code x call k c (valE ρ e) (valH ρ h) = some (q, valE ρ e', valH ρ h') := by
  intro c
  induction c with
  | skip =>
    intro e e' h h' q s s' _ hh
    obtain ⟨h4, _⟩ := runs_pure hh
    simp only [Prod.mk.injEq] at h4
    obtain ⟨rfl, rfl, rfl⟩ := h4
    rfl
  | exit id =>
    intro e e' h h' q s s' _ hh
    obtain ⟨h4, _⟩ := runs_pure hh
    simp only [Prod.mk.injEq] at h4
    obtain ⟨rfl, rfl, rfl⟩ := h4
    rfl
  | ret =>
    intro e e' h h' q s s' _ hh
    obtain ⟨h4, _⟩ := runs_pure hh
    simp only [Prod.mk.injEq] at h4
    obtain ⟨rfl, rfl, rfl⟩ := h4
    rfl
  | region id ops d =>
    intro e e' h h' q s s' hc hh
    simp only [codeClean] at hc
    exact regionY_ok C hx (fun o ho => List.all_eq_true.1 hc o ho) hh
  | seq a b iha ihb =>
    intro e e' h h' q s s' hc hh
    simp only [codeClean, Bool.and_eq_true] at hc
    simp only [codeY] at hh
    obtain ⟨⟨q1, e1, h1⟩, s1, h2, h3⟩ := runs_bind hh
    simp only [code, iha hc.1 h2]
    cases q1 with
    | n => exact ihb hc.2 h3
    | x id =>
      obtain ⟨h4, _⟩ := runs_pure h3
      simp only [Prod.mk.injEq] at h4
      obtain ⟨rfl, rfl, rfl⟩ := h4
      rfl
    | r =>
      obtain ⟨h4, _⟩ := runs_pure h3
      simp only [Prod.mk.injEq] at h4
      obtain ⟨rfl, rfl, rfl⟩ := h4
      rfl
  | cond t a b iha ihb =>
    intro e e' h h' q s s' hc hh
    simp only [codeClean, Bool.and_eq_true] at hc
    simp only [codeY] at hh
    simp only [code, ev_val hc.1.1]
    split at hh
    · rename_i hv
      rw [hv]
      exact iha hc.1.2 hh
    · rename_i hv
      rw [hv]
      exact ihb hc.2 hh
    · exact (runs_fail hh).elim
  | block id c ih =>
    intro e e' h h' q s s' hc hh
    simp only [codeClean] at hc
    simp only [codeY] at hh
    obtain ⟨⟨q1, e1, h1⟩, s1, h2, h3⟩ := runs_bind hh
    simp only [code, ih hc h2]
    cases q1 with
    | n =>
      obtain ⟨h4, _⟩ := runs_pure h3
      simp only [Prod.mk.injEq] at h4
      obtain ⟨rfl, rfl, rfl⟩ := h4
      rfl
    | x id' =>
      simp only at h3 ⊢
      cases hb : Nat.beq id' id <;> rw [hb] at h3 <;> simp only [cond_true, cond_false] at h3 ⊢
      · obtain ⟨h4, _⟩ := runs_pure h3
        simp only [Prod.mk.injEq] at h4
        obtain ⟨rfl, rfl, rfl⟩ := h4
        rfl
      · obtain ⟨h4, _⟩ := runs_pure h3
        simp only [Prod.mk.injEq] at h4
        obtain ⟨rfl, rfl, rfl⟩ := h4
        rfl
    | r =>
      obtain ⟨h4, _⟩ := runs_pure h3
      simp only [Prod.mk.injEq] at h4
      obtain ⟨rfl, rfl, rfl⟩ := h4
      rfl
  | loop c ih =>
    intro e e' h h' q s s' hc hh
    simp only [codeClean] at hc
    simp only [codeY] at hh
    simp only [code]
    exact loopNY_ok (ih hc) k hh
  | _ =>
    intro e e' h h' q s s' _ hh
    exact (runs_fail hh).elim

theorem env0_val : ∀ (l : List V) (i : Nat) (e : Env), env0 (vals ρ l) i (valE ρ e) = valE ρ (env0 l i e)
  | [], i, e => rfl
  | v :: l, i, e => by
    simp only [vals, env0, T.seq_eq]
    rw [← env0_val l (i + 1)]
    congr 1
    simp only [valE, T.put_mp, Option.map_some]

theorem resL_val {e : Env} {h : H} : ∀ (l : List ResultVar) {vs : List V}, resL x e h l = some vs → resL x (valE ρ e) (valH ρ h) l = some (vals ρ vs)
  | [], vs, hh => by
    simp only [resL, Option.some.injEq] at hh
    subst hh
    rfl
  | r :: l, vs, hh => by
    simp only [resL] at hh ⊢
    split at hh
    · rename_i v vs1 h1 h2
      simp only [Option.some.injEq] at hh
      subst hh
      rw [resL_val l h2]
      have : res1 x (valE ρ e) (valH ρ h) r = some (val ρ v) := by
        cases r with
        | tmp t =>
          simp only [res1, Option.some.injEq] at h1 ⊢
          rw [gv_val, h1]
        | cell a t =>
          simp only [res1] at h1 ⊢
          rcases ti_or h1 with ⟨i, hi, h1⟩ | h1
          · rw [ti_some _ hi, gv_val]
            split at h1
            · rename_i r o hv
              rw [hv]
              simp only [val, gval_mem]
              exact loadB_val h1
            · cases h1
          · cases h1
      rw [this]
      rfl
    · cases hh

theorem resV_val (vs : List V) : resV (vals ρ vs) = val ρ (resV vs) := by
  match vs with
  | [] => simp [vals, resV, val]
  | [v] => simp [vals, resV]
  | _ :: _ :: _ => simp [vals, resV, val]

theorem semY_ok (hx : XClean x) (k : Nat) : ∀ n, CallOk ρ (semY x k n) (sem x k n)
  | 0, f, args, h, s, v, h', s', hh => (runs_fail hh).elim
  | n + 1, f, args, h, s, v, h', s', hh => by
    simp only [semY] at hh
    simp only [sem]
    split at hh
    · exact (runs_fail hh).elim
    · rename_i fn hf
      cases hok : (fnOk x fn && fnClean fn) with
      | false => rw [hok] at hh; exact (runs_fail hh).elim
      | true =>
        rw [hok] at hh
        rw [Bool.and_eq_true] at hok
        simp only [hok.1, cond_true] at hh ⊢
        split at hh
        · exact (runs_fail hh).elim
        · rename_i c hc
          have hcl := hok.2
          unfold fnClean at hcl
          rw [hc] at hcl
          simp only at hcl
          obtain ⟨⟨q, e1, h1⟩, s1, h2, h3⟩ := runs_bind hh
          have h4 := codeY_ok (semY_ok hx k n) hx k c hcl h2
          have he : valE ρ (env0 args 0 .l) = env0 (vals ρ args) 0 .l := by
            rw [← env0_val]; rfl
          rw [he] at h4
          simp only [hf, hc, hok.1, cond_true, h4]
          have fin : ∀ {vs : Option (List V)}, resL x e1 h1 fn.results.toList = vs → Runs ρ (match vs with
              | some vs => pureM (resV vs, h1)
              | none => failM) s1 (v, h') s' → (match resL x (valE ρ e1) (valH ρ h1) fn.results.toList with
                | some vs => some (resV vs, valH ρ h1)
                | none => none) = some (val ρ v, valH ρ h') := by
            intro vs hv hr
            cases vs with
            | none => exact (runs_fail hr).elim
            | some vs =>
              obtain ⟨h5, _⟩ := runs_pure hr
              simp only [Prod.mk.injEq] at h5
              obtain ⟨rfl, rfl⟩ := h5
              rw [resL_val _ hv, ← resV_val]
          cases q with
          | n => exact fin rfl h3
          | x id => exact (runs_fail h3).elim
          | r => exact fin rfl h3

end
end Go.Am
