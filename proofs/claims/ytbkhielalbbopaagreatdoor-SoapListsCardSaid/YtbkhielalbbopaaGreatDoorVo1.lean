/- Sorting: data as a function, swaps, orders. -/
import Derived.Test.YtbkhielalbbopaaGreatDoorUl0
import Derived.Test.YtbkhielalbbopaaGreatDoorYo3
set_option linter.unusedSimpArgs false
set_option linter.unusedVariables false
set_option linter.unusedSectionVars false
set_option linter.unnecessarySimpa false
set_option maxRecDepth 100000
namespace Go.Proofs.YtbkhielalbbopaaGreatDoor.Wb
open Go.Am

def fl (n : Nat) (f : Nat → Mp) : List Mp := (List.range n).map f
theorem fl_len (n : Nat) (f : Nat → Mp) : (fl n f).length = n := by simp [fl]
theorem fl_get {n : Nat} {f : Nat → Mp} {i : Nat} (h : i < (fl n f).length) : (fl n f)[i] = f i := by simp [fl]
def up (f : Nat → Mp) (i : Nat) (e : Mp) : Nat → Mp := fun k => if k = i then e else f k
theorem fl_set (n : Nat) (f : Nat → Mp) (i : Nat) (e : Mp) : (fl n f).set i e = fl n (up f i e) := by
  refine List.ext_getElem (by simp [fl]) fun k h1 h2 => ?_
  rw [fl_get h2, List.getElem_set]
  by_cases h : i = k
  · rw [if_pos h, up, if_pos h.symm]
  · rw [if_neg h, up, if_neg (fun e => h e.symm), fl_get]
def sw (f : Nat → Mp) (x y : Nat) : Nat → Mp := up (up f y (f x)) x (f y)
theorem sw_x (f : Nat → Mp) (x y : Nat) : sw f x y x = f y := if_pos rfl
theorem sw_y (f : Nat → Mp) (x y : Nat) : sw f x y y = f x := by
  unfold sw up
  by_cases h : y = x
  · rw [if_pos h, h]
  · rw [if_neg h, if_pos rfl]
theorem sw_o {f : Nat → Mp} {x y k : Nat} (h1 : k ≠ x) (h2 : k ≠ y) : sw f x y k = f k := by
  unfold sw up
  rw [if_neg h1, if_neg h2]

def D (h : H) (v : V) (n : Nat) (f : Nat → Mp) : Prop := VecE h v 55 9 encM (fl n f)
theorem D.keep {h h' : H} {v : V} {n : Nat} {f : Nat → Mp} (hv : D h v n f) (hd : Bd h) (hk : But h h' none) : D h' v n f := VecE.keep hv (VecE.lt hv hd) hk (.inr rfl)

theorem d_at {h : H} {v : V} {n : Nat} {f : Nat → Mp} (hv : D h v n f) {m : Int} {i : Nat} (hm : m = i) (hi : i < n) {κ : V → Prop} (K : ∀ b, At h v b (i * 9) 9 (encM (f i)) → κ (.p b (i * 9))) : pw.is 9 v (.i .i64 m) κ :=
  vece_at encM_len hv hm (by rw [fl_len]; exact hi) fun b ha => K b (by rw [fl_get] at ha; exact ha)
/-- An entry is read. -/
theorem d_rd {h : H} {v : V} {n : Nat} {f : Nat → Mp} (hv : D h v n f) {m : Int} {i : Nat} (hm : m = i) (hi : i < n) {κ : V → Prop} (K : κ (.a (encM (f i)))) : pw.is 9 v (.i .i64 m) fun a => pw.ln 9 a h κ :=
  d_at hv hm hi fun b ha => by rw [ha.all]; exact K
theorem d_wr {h : H} {v : V} {n : Nat} {f : Nat → Mp} (hv : D h v n f) {m : Int} {i : Nat} (hm : m = i) (hi : i < n) {e : Mp} {κ : H → Prop} (K : ∀ h', D h' v n (up f i e) → But h h' (vblk v) → κ h') : pw.is 9 v (.i .i64 m) fun a => pw.sn 9 a (.a (encM e)) h κ :=
  d_at hv hm hi fun b ha => vece_set encM_len hv (by rw [fl_len]; exact hi) ha.blk (e' := e) (encM_one _) fun h' hv' f' => K h' (by rw [fl_set] at hv'; exact hv') f'
/-- Two entries change places. -/
theorem d_sw {h : H} {v : V} {n : Nat} {f : Nat → Mp} (hv : D h v n f) {mx my : Int} {x y : Nat} (hx : mx = x) (hy : my = y) (hxn : x < n) (hyn : y < n) {κ : H → Prop} (K : ∀ h', D h' v n (sw f x y) → But h h' (vblk v) → κ h') :
    pw.is 9 v (.i .i64 mx) fun a => pw.ln 9 a h fun vx => pw.is 9 v (.i .i64 my) fun b => pw.ln 9 b h fun vy => pw.is 9 v (.i .i64 my) fun c => pw.sn 9 c vx h fun h1 => pw.is 9 v (.i .i64 mx) fun d => pw.sn 9 d vy h1 κ :=
  d_rd hv hx hxn (d_rd hv hy hyn (d_wr hv hy hyn fun _ hv1 f1 => d_wr hv1 hx hxn fun h2 hv2 f2 => K h2 hv2 (f1.trans f2)))

/-! ### Order -/
def lt (a b : Mp) : Prop := a.p < b.p ∨ (a.p = b.p ∧ a.o < b.o)
instance (a b : Mp) : Decidable (lt a b) := by unfold lt; infer_instance
theorem lt_irr (a : Mp) : ¬ lt a a := by unfold lt; omega
theorem lt_as {a b : Mp} (h : lt a b) : ¬ lt b a := by unfold lt at *; omega
theorem le_tr {a b c : Mp} (h1 : ¬ lt b a) (h2 : ¬ lt c b) : ¬ lt c a := by unfold lt at *; omega
theorem lt_le {a b c : Mp} (h1 : lt a b) (h2 : ¬ lt c b) : lt a c := by unfold lt at *; omega
theorem le_lt {a b c : Mp} (h1 : ¬ lt b a) (h2 : lt b c) : lt a c := by unfold lt at *; omega

def CmpC (n0 : Nat) (h0 : H) (c : Option Nat) (clo : V) : Prop := ∀ n, n0 ≤ n → ∀ a b, ∀ (h : H) (K : V → H → Prop), Bd h → But h0 h c → (∀ h' (z : Int), Bd h' → But h h' none → (z < 0 ↔ lt a b) → K (.i .i64 z) h') → pw.cl (Ok Tryz.prog n) clo [.a (encM a), .a (encM b)] h K
theorem CmpC.later {n0 : Nat} {h0 h1 : H} {c : Option Nat} {clo : V} (hc : CmpC n0 h0 c clo) (f : But h0 h1 c) : CmpC n0 h1 c clo := fun n hn a b h K hb hk k => hc n hn a b h K hb (f.trans hk) k
theorem CmpC.more {n0 n1 : Nat} {h0 : H} {c : Option Nat} {clo : V} (hc : CmpC n0 h0 c clo) (h : n0 ≤ n1) : CmpC n1 h0 c clo := fun n hn a b h K hb hk k => hc n (by omega) a b h K hb hk k

/-! ### What changes places -/
def Prm (a b : Nat) (f g : Nat → Mp) : Prop := ∃ σ τ : Nat → Nat, (∀ x, σ (τ x) = x) ∧ (∀ x, τ (σ x) = x) ∧ (∀ x, ¬ (a ≤ x ∧ x < b) → σ x = x) ∧ ∀ x, g x = f (σ x)
theorem Prm.refl (a b : Nat) (f : Nat → Mp) : Prm a b f f := ⟨id, id, fun _ => rfl, fun _ => rfl, fun _ _ => rfl, fun _ => rfl⟩
theorem Prm.trans {a b : Nat} {f g k : Nat → Mp} (h1 : Prm a b f g) (h2 : Prm a b g k) : Prm a b f k := by
  obtain ⟨σ, τ, e1, e2, e3, e4⟩ := h1
  obtain ⟨σ', τ', d1, d2, d3, d4⟩ := h2
  exact ⟨fun x => σ (σ' x), fun x => τ' (τ x), fun x => by show σ (σ' (τ' (τ x))) = x; rw [d1, e1], fun x => by show τ' (τ (σ (σ' x))) = x; rw [e2, d2], fun x hx => by show σ (σ' x) = x; rw [d3 x hx, e3 x hx], fun x => by rw [d4, e4]⟩
theorem Prm.wide {a b a' b' : Nat} {f g : Nat → Mp} (h : Prm a b f g) (ha : a' ≤ a) (hb : b ≤ b') : Prm a' b' f g := by
  obtain ⟨σ, τ, e1, e2, e3, e4⟩ := h
  exact ⟨σ, τ, e1, e2, fun x hx => e3 x (by omega), e4⟩
theorem Prm.sw {a b x y : Nat} (f : Nat → Mp) (h1 : a ≤ x ∧ x < b) (h2 : a ≤ y ∧ y < b) : Prm a b f (sw f x y) := by
  refine ⟨fun k => if k = x then y else if k = y then x else k, fun k => if k = x then y else if k = y then x else k, fun k => ?_, fun k => ?_, fun k hk => ?_, fun k => ?_⟩
  · by_cases h : k = x
    · subst h; simp
    · by_cases h' : k = y
      · subst h'; simp [h]
      · simp [h, h']
  · by_cases h : k = x
    · subst h; simp
    · by_cases h' : k = y
      · subst h'; simp [h]
      · simp [h, h']
  · show (if k = x then y else if k = y then x else k) = k
    rw [if_neg (by omega), if_neg (by omega)]
  · by_cases h : k = x
    · subst h; simp [sw_x]
    · by_cases h' : k = y
      · subst h'; simp [h, sw_y]
      · simp [h, h', sw_o]
theorem Prm.out {a b x : Nat} {f g : Nat → Mp} (h : Prm a b f g) (hx : ¬ (a ≤ x ∧ x < b)) : g x = f x := by
  obtain ⟨σ, τ, e1, e2, e3, e4⟩ := h
  rw [e4, e3 x hx]
theorem Prm.mem {a b x : Nat} {f g : Nat → Mp} (h : Prm a b f g) (hx : a ≤ x ∧ x < b) : ∃ y, (a ≤ y ∧ y < b) ∧ g x = f y := by
  obtain ⟨σ, τ, e1, e2, e3, e4⟩ := h
  refine ⟨σ x, ?_, e4 x⟩
  by_cases hy : a ≤ σ x ∧ σ x < b
  · exact hy
  · have h1 := e3 _ hy
    have h2 := e2 (σ x)
    rw [h1, e2] at h2
    rw [← h2]
    exact hx
theorem Prm.back {a b y : Nat} {f g : Nat → Mp} (h : Prm a b f g) (hy : a ≤ y ∧ y < b) : ∃ x, (a ≤ x ∧ x < b) ∧ g x = f y := by
  obtain ⟨σ, τ, e1, e2, e3, e4⟩ := h
  refine ⟨τ y, ?_, by rw [e4, e1]⟩
  by_cases hx : a ≤ τ y ∧ τ y < b
  · exact hx
  · have h1 := e3 _ hx
    rw [e1] at h1
    rw [h1] at hy
    exact absurd hy hx
theorem Prm.all {a b : Nat} {f g : Nat → Mp} (h : Prm a b f g) {P : Mp → Prop} (hf : ∀ x, a ≤ x → x < b → P (f x)) : ∀ x, a ≤ x → x < b → P (g x) := fun x h1 h2 => by
  obtain ⟨y, hy, e⟩ := h.mem ⟨h1, h2⟩
  rw [e]
  exact hf y hy.1 hy.2
/-- No two alike. -/
def Dis (n : Nat) (f : Nat → Mp) : Prop := ∀ x y, x < n → y < n → x ≠ y → lt (f x) (f y) ∨ lt (f y) (f x)
theorem Prm.dis {a b n : Nat} {f g : Nat → Mp} (h : Prm a b f g) (hb : b ≤ n) (hd : Dis n f) : Dis n g := by
  obtain ⟨σ, τ, e1, e2, e3, e4⟩ := id h
  have hl : ∀ x, x < n → σ x < n := fun x hx => by
    by_cases hy : σ x < n
    · exact hy
    · have h1 := e3 (σ x) (by omega)
      have h2 := e2 (σ x)
      rw [h1, e2] at h2
      omega
  intro x y hx hy hne
  rw [e4, e4]
  exact hd _ _ (hl x hx) (hl y hy) fun e => hne (by rw [← e2 x, e, e2])
def Srt (a b : Nat) (f : Nat → Mp) : Prop := ∀ x y, a ≤ x → x < y → y < b → ¬ lt (f y) (f x)
end Go.Proofs.YtbkhielalbbopaaGreatDoor.Wb
