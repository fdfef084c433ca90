/- What Write comes to: a tree that is written; what is found in it. -/
import Derived.Test.YtbkhielalbbopaaGreatDoorZd1
import Derived.Test.YtbkhielalbbopaaGreatDoorZe3
set_option linter.unusedSimpArgs false
set_option linter.unusedVariables false
set_option linter.unusedSectionVars false
set_option linter.unnecessarySimpa false
set_option maxRecDepth 100000
namespace Go.Proofs.YtbkhielalbbopaaGreatDoor.Wb
open Go Go.Am Go.Am.Xm

/-- An argument: its name, its text. -/
abbrev Ag := Bs × Bs
def encA (e : Ag) : List V := [.s e.1, .s e.2]
theorem encA_len (e : Ag) : (encA e).length = 2 := rfl
def agD (a : Ag) : Dc := .el a.1 [] a.2 []
def respS : Bs := [82, 101, 115, 112, 111, 110, 115, 101]
def envA : Bs := [32, 120, 109, 108, 110, 115, 58, 115, 61, 34, 104, 116, 116, 112, 58, 47, 47, 115, 99, 104, 101, 109, 97, 115, 46, 120, 109, 108, 115, 111, 97, 112, 46, 111, 114, 103, 47, 115, 111, 97, 112, 47, 101, 110, 118, 101, 108, 111, 112, 101, 47, 34]
def resA : Bs := [32, 120, 109, 108, 110, 115, 58, 117, 61, 34, 117, 114, 110, 58, 115, 99, 104, 101, 109, 97, 115, 45, 117, 112, 110, 112, 45, 111, 114, 103, 58, 115, 101, 114, 118, 105, 99, 101, 58, 87, 65, 78, 73, 80, 67, 111, 110, 110, 101, 99, 116, 105, 111, 110, 58, 49, 34]
def sEnv : Bs := [115, 58, 69, 110, 118, 101, 108, 111, 112, 101]
def sBody : Bs := [115, 58, 66, 111, 100, 121]
def sFault : Bs := [115, 58, 70, 97, 117, 108, 116]
def sCode : Bs := [102, 97, 117, 108, 116, 99, 111, 100, 101]
def sClient : Bs := [115, 58, 67, 108, 105, 101, 110, 116]
def sDetail : Bs := [100, 101, 116, 97, 105, 108]
def sUpnp : Bs := [85, 80, 110, 80, 69, 114, 114, 111, 114]
def sErr : Bs := [101, 114, 114, 111, 114, 67, 111, 100, 101]
def faultD (code : Nat) : Dc := .el sFault [] [] [.el sCode [] sClient [], .el sDetail [] [] [.el sUpnp [] [] [.el sErr [] (digs code) []]]]
def respD (act : Bs) (al : List Ag) : Dc := .el ([117, 58] ++ act ++ respS) resA [] (al.map agD)
def envD (d : Dc) : Dc := .el sEnv envA [] [.el sBody [] [] [d]]
def headS : Bs := [60, 63, 120, 109, 108, 32, 118, 101, 114, 115, 105, 111, 110, 61, 34, 49, 46, 48, 34, 63, 62]
def docS (d : Dc) : Bs := headS ++ 60 :: (envD d).body

theorem NM.lit {n b : Bs} (h : (n.all fun c => inS nmS c) = true) (h2 : (match n with | [] => false | c :: _ => !(c == 33) && !(c == 63) && !(c == 47) && !badN n) = true) (h3 : plainS n = b) : NM n b := by
  refine ⟨fun c hc => List.all_eq_true.1 h c hc, ?_, ?_, h3⟩
  · cases n with
    | nil => cases h2
    | cons c n' =>
      simp only [Bool.and_eq_true, Bool.not_eq_true', beq_eq_false_iff_ne] at h2
      exact ⟨c, n', rfl, h2.1.1.1, h2.1.1.2, h2.1.2⟩
  · cases n with
    | nil => cases h2
    | cons c n' =>
      simp only [Bool.and_eq_true, Bool.not_eq_true'] at h2
      exact h2.2

theorem AtOk.lit {a an b w : Bs} (e : a = 32 :: (an ++ 61 :: 34 :: (w ++ [34]))) (N : NM an b) (h34 : (34 : UInt8) ∉ w) (hb : badT w = false) : AtOk a := by rw [e]; exact AtOk.word N h34 hb

theorem escB_dg {n : Nat} (h : n < 10) : escB (dg n) = [dg n] := by
  have : ∀ n, n < 10 → escB (dg n) = [dg n] := by decide
  exact this n h
theorem esc_digs : ∀ (k n : Nat), n < 10 ^ (k + 1) → esc (digs n) = digs n
  | 0, n, h => by rw [digs_lo (by omega), esc, escB_dg (by omega)]; rfl
  | k + 1, n, h => by
    by_cases hn : n < 10
    · rw [digs_lo hn, esc, escB_dg hn]; rfl
    · rw [digs_hi (by omega), esc_app, esc_digs k (n / 10) (by rw [Nat.pow_succ] at h; omega)]
      rw [esc, escB_dg (by omega)]
      rfl
theorem digs_pl : ∀ (k n : Nat), n < 10 ^ (k + 1) → plnB (digs n)
  | 0, n, h => by
    rw [digs_lo (by omega)]
    intro c hc
    simp at hc
    rw [hc, dg_nat (by omega)]; omega
  | k + 1, n, h => by
    by_cases hn : n < 10
    · rw [digs_lo hn]
      intro c hc
      simp at hc
      rw [hc, dg_nat hn]; omega
    · rw [digs_hi (by omega)]
      refine pln_app (digs_pl k (n / 10) (by rw [Nat.pow_succ] at h; omega)) fun c hc => ?_
      simp at hc
      rw [hc, dg_nat (by omega)]; omega

theorem NMenv : NM sEnv (plainS sEnv) := NM.lit (by decide) (by decide) rfl
theorem envA_ok : AtOk envA := AtOk.lit (an := [120, 109, 108, 110, 115, 58, 115]) (w := [104, 116, 116, 112, 58, 47, 47, 115, 99, 104, 101, 109, 97, 115, 46, 120, 109, 108, 115, 111, 97, 112, 46, 111, 114, 103, 47, 115, 111, 97, 112, 47, 101, 110, 118, 101, 108, 111, 112, 101, 47]) rfl (NM.lit (by decide) (by decide) rfl) (by decide) (by kernel_rfl)
theorem resA_ok : AtOk resA := AtOk.lit (an := [120, 109, 108, 110, 115, 58, 117]) (w := [117, 114, 110, 58, 115, 99, 104, 101, 109, 97, 115, 45, 117, 112, 110, 112, 45, 111, 114, 103, 58, 115, 101, 114, 118, 105, 99, 101, 58, 87, 65, 78, 73, 80, 67, 111, 110, 110, 101, 99, 116, 105, 111, 110, 58, 49]) rfl (NM.lit (by decide) (by decide) rfl) (by decide) (by kernel_rfl)

theorem fault_ok (c : Nat) : (faultD c).ok :=
  ⟨NM.lit (by decide) (by decide) rfl, AtOk.nil, by simp, ⟨NM.lit (by decide) (by decide) rfl, AtOk.nil, by simp, trivial⟩, ⟨NM.lit (by decide) (by decide) rfl, AtOk.nil, by simp, ⟨NM.lit (by decide) (by decide) rfl, AtOk.nil, by simp, ⟨NM.lit (by decide) (by decide) rfl, AtOk.nil, by simp, trivial⟩, trivial⟩, trivial⟩, trivial⟩
theorem env_ok {d : Dc} (h : d.ok) : (envD d).ok := ⟨NM.lit (by decide) (by decide) rfl, envA_ok, by simp, ⟨NM.lit (by decide) (by decide) rfl, AtOk.nil, by simp, h, trivial⟩, trivial⟩
theorem ags_ok : ∀ {al : List Ag}, (∀ a ∈ al, NM a.1 (plainS a.1)) → oks (al.map agD)
  | [], _ => trivial
  | a :: al, h => ⟨⟨h a (List.mem_cons_self ..), AtOk.nil, by decide, trivial⟩, ags_ok fun b hb => h b (List.mem_cons_of_mem _ hb)⟩

/-- A name of small letters between u: and Response. -/
theorem NMres {act : Bs} (h : ∀ c ∈ act, azB c = true) : NM ([117, 58] ++ act ++ respS) (plainS ([117, 58] ++ act ++ respS)) ∧ plainS ([117, 58] ++ act ++ respS) = act ++ respS := by
  refine ⟨⟨fun c hc => ?_, ⟨117, 58 :: (act ++ respS), rfl, by decide, by decide, by decide⟩, ?_, rfl⟩, ?_⟩
  · simp only [List.mem_append] at hc
    rcases hc with (hc | hc) | hc
    · simp at hc
      rcases hc with rfl | rfl <;> decide
    · exact (az_nm (h c hc)).1
    · exact List.all_eq_true.1 (show (respS.all fun c => inS nmS c) = true by decide) c hc
  · show decide (0 ≤ Lib.indexByte mrS 117) = false
    decide
  · have : ([117, 58] ++ act ++ respS : Bs) = [117] ++ 58 :: (act ++ respS) := rfl
    rw [this]
    refine plainS_at fun hc => ?_
    rcases List.mem_append.1 hc with hc | hc
    · exact az_ne (h _ hc) (by decide) rfl
    · revert hc; decide
theorem resp_ok {act : Bs} (h : ∀ c ∈ act, azB c = true) {al : List Ag} (hn : ∀ a ∈ al, NM a.1 (plainS a.1)) (hl : al.length ≤ 100) : (respD act al).ok := ⟨(NMres h).1, resA_ok, by simp; omega, ags_ok hn⟩

theorem hts_ags : ∀ (al : List Ag), hts (al.map agD) ≤ 1
  | [] => by simp [hts]
  | a :: al => by
    have := hts_ags al
    simp only [List.map_cons, hts, agD, Dc.ht]
    omega
theorem resp_ht (act : Bs) (al : List Ag) : (respD act al).ht ≤ 2 := by
  have := hts_ags al
  simp only [respD, Dc.ht]; omega
theorem fault_ht (c : Nat) : (faultD c).ht = 4 := by simp [faultD, Dc.ht, hts]
theorem env_ht (d : Dc) : (envD d).ht = 2 + d.ht := by simp [envD, Dc.ht, hts]; omega

/-- Write's text, read back. -/
theorem doc_parse {d : Dc} (h : d.ok) (hh : d.ht ≤ 4) : parseP 7 (docS d) = some ((envD d).xt, 0) := by
  have ht := tree_dc (envD d) (env_ok h) 7 1 0 [] (by rw [env_ht]; omega)
  rw [List.append_nil, env_ht] at ht
  obtain ⟨c, T, e1, h33, h47⟩ := Dc.head (env_ok h) []
  rw [List.append_nil] at e1
  have h63 : c ≠ 63 := by
    intro e
    subst e
    have : (envD d).body = 115 :: ([58, 69, 110, 118, 101, 108, 111, 112, 101] ++ envA ++ [62] ++ esc [] ++ bodies [.el sBody [] [] [d]] ++ [60, 47] ++ sEnv ++ [62]) := rfl
    rw [this] at e1
    cases e1
  have ha : ahL 100000 false (docS d, false) = some (60 :: (envD d).body, false) := by
    unfold docS
    generalize (envD d).body = B at e1 ⊢
    subst e1
    have a1 : ahL 100000 false (headS ++ 60 :: c :: T, false) = ahL 99999 true (60 :: c :: T, false) := ah_pi (m := 99999) (by kernel_rfl) (by kernel_rfl) (by kernel_rfl) (by kernel_rfl)
    rw [a1]
    exact ah_no (m := 99998) h33 h63
  exact parse_at (c := []) (x := 0) ha ht (by omega) (tr_nil (m := 99999))

theorem find_code {c : Nat} : findP (envD (faultD c)).xt [[66, 111, 100, 121], [70, 97, 117, 108, 116], [100, 101, 116, 97, 105, 108], [85, 80, 110, 80, 69, 114, 114, 111, 114], [101, 114, 114, 111, 114, 67, 111, 100, 101]] = some (.node sErr (digs c) []) := by
  have e : (envD (faultD c)).xt = .node (plainS sEnv) [] [.node (plainS sBody) [] [.node (plainS sFault) [] [.node (plainS sCode) sClient [], .node (plainS sDetail) [] [.node (plainS sUpnp) [] [.node (plainS sErr) (digs c) []]]]]] := rfl
  have e1 : plainS sBody = [66, 111, 100, 121] := by decide
  have e2 : plainS sFault = [70, 97, 117, 108, 116] := by decide
  have e3 : plainS sCode = sCode := by decide
  have e4 : plainS sDetail = [100, 101, 116, 97, 105, 108] := by decide
  have e5 : plainS sUpnp = [85, 80, 110, 80, 69, 114, 114, 111, 114] := by decide
  have e6 : plainS sErr = [101, 114, 114, 111, 114, 67, 111, 100, 101] := by decide
  rw [e, e1, e2, e3, e4, e5, e6]
  simp [findP, XT.kids, kidN, XT.nm, sCode, sErr]
theorem kidN_ag {nm : Bs} : ∀ {al : List Ag} (i : Nat) (hi : i < al.length), (∀ a ∈ al, plainS a.1 = a.1) → al[i].1 = nm → (∀ j, j < i → (hj : j < al.length) → al[j].1 ≠ nm) → kidN nm (xts (al.map agD)) = some (.node nm al[i].2 [])
  | a :: al, 0, _, hp, he, _ => by
    have e : xts ((a :: al).map agD) = .node (plainS a.1) a.2 [] :: xts (al.map agD) := rfl
    have : a.1 = nm := he
    rw [e, hp a (List.mem_cons_self ..), kidN, if_pos (show (XT.node a.1 a.2 []).nm = nm from this), this]
    rfl
  | a :: al, i + 1, hi, hp, he, hd => by
    have e : xts ((a :: al).map agD) = .node (plainS a.1) a.2 [] :: xts (al.map agD) := rfl
    have h0 : a.1 ≠ nm := hd 0 (by omega) (by simp)
    rw [e, hp a (List.mem_cons_self ..), kidN, if_neg (show ¬ (XT.node a.1 a.2 []).nm = nm from h0)]
    exact kidN_ag i (by simpa using hi) (fun b hb => hp b (List.mem_cons_of_mem _ hb)) he fun j hj hj' => hd (j + 1) (by omega) (by simp; omega)
theorem xts_len : ∀ (al : List Dc), (xts al).length = al.length
  | [] => rfl
  | d :: al => by simp [xts, xts_len al]
theorem find_ag {act : Bs} (h : ∀ c ∈ act, azB c = true) {al : List Ag} (hl : al.length ≤ 100) {i : Nat} (hi : i < al.length) (hp : ∀ a ∈ al, plainS a.1 = a.1) (hd : ∀ j, j < i → (hj : j < al.length) → al[j].1 ≠ al[i].1) :
    findP (envD (respD act al)).xt [[66, 111, 100, 121], act ++ respS, al[i].1] = some (.node al[i].1 al[i].2 []) := by
  have e : (envD (respD act al)).xt = .node (plainS sEnv) [] [.node (plainS sBody) [] [.node (plainS ([117, 58] ++ act ++ respS)) [] (xts (al.map agD))]] := rfl
  have e1 : plainS sBody = [66, 111, 100, 121] := by decide
  rw [e, e1, (NMres h).2]
  rw [findP, if_neg (by simp [XT.kids])]
  simp only [XT.kids, kidN, XT.nm, if_true]
  rw [findP, if_neg (by simp [XT.kids])]
  simp only [XT.kids, kidN, XT.nm, if_true]
  rw [findP, if_neg (by simp [XT.kids, xts_len]; omega)]
  simp only [XT.kids]
  rw [kidN_ag i hi hp rfl hd]
  rfl
end Go.Proofs.YtbkhielalbbopaaGreatDoor.Wb
