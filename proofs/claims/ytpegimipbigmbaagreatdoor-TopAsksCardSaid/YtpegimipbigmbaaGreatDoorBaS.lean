/- 'if s == 0 { s = 65535 }' in the functions that make datagrams: reckoned at once. -/
import Derived.Test.YtpegimipbigmbaaGreatDoorM9
import Derived.Test.YtpegimipbigmbaaGreatDoorBaO
set_option linter.unusedSimpArgs false
set_option linter.unusedVariables false
set_option linter.unusedSectionVars false
set_option linter.unnecessarySimpa false
set_option maxRecDepth 100000
namespace Go.Proofs.YtpegimipbigmbaaGreatDoor.Bodies
open Go.Am
section
variable {p : Pr} {x : X} {inf : Inf} {call : CT} {κ : KT} {v m : Nat}
theorem sqS (n : Code) {Fa Fb : FE → H → Sy → R} (hb : codeSp p x inf call v m (cR n) κ = Fb) (ha : CE p x inf call (cL n) (ks Fb κ) = Fa) : codeSp p x inf call v (m + 1) n κ = Fa := by
 subst hb; exact ha
theorem sq0 (n : Code) {Fb : FE → H → Sy → R} (hb : CE p x inf call (cR n) κ = Fb) : codeSp p x inf call v 0 n κ = selG v Fb := by
 subst hb; rfl
end
noncomputable def S180_11 (p : Pr) (x : X) (call : CT) (v12 : V) (v13 : V) (v14 : V) (h : H) (s : Sy) : R := p.fa 5 v12 fun v15 => p.s1 v15 (.i .i64 (.ofNat 17)) h fun h16 => p.fa 0 v13 fun v17 => p.l1 v17 h16 fun v18 => p.cf call 83 [.ns, v18] h16 s fun v19 h19 s19 => p.fa 1 v13 fun v20 => p.l1 v20 h19 fun v21 => p.cf call 83 [v19, v21] h19 s19 fun v22 h22 s22 => p.ck (prd (cL (cR (cR (cR (cR (bdy Tryz.f180))))))) .l h16 (⟨4, (rdL x 3 v20), v21⟩ :: (⟨1, (rdL x 3 v17), v18⟩ :: [])) ((5, h22) :: ((2, h19) :: [])) (p.fa 2 v13 fun v25 => p.l1 v25 h22 fun v26 => p.ls x 28 v26 s22 fun v27 s27 => p.ad x 3 (.i .i64 (.ofNat 8)) v27 s27 fun v28 s28 => p.cf call 83 [v22, v28] h22 s28 fun v29 h29 s29 => p.bs x 28 2 [(0, (.i .u8 (.ofNat 0))), (1, (.i .u8 (.ofNat 0)))] h29 fun v30 h30 => p.ap x 28 28 v29 v30 h30 s29 fun v31 h31 s31 => p.fa 2 v13 fun v34 => p.l1 v34 h31 fun v35 => p.ap x 28 28 v31 v35 h31 s31 fun v36 h36 s36 => p.ln 16 v12 h36 fun v38 => p.cf call 17 [v38, v36] h36 s36 fun v40 h40 s40 => selC v40 s40 fun v71 s71 => F180_42 p x call v12 v14 v36 v71 h40 s71)
theorem U180_11 (p : Pr) (x : X) (call : CT) : codeSp p x I call 7 5 (cR (cR (cR (bdy Tryz.f180)))) (finG p I Tryz.f180.results.toList) = (fun e h s => S180_11 p x call (e 2) (e 3) (e 4) h s) := Eq.trans (sqS (cR (cR (cR (bdy Tryz.f180)))) (sqS (cR (cR (cR (cR (bdy Tryz.f180))))) (sqS (cR (cR (cR (cR (cR (bdy Tryz.f180)))))) (sqS (cR (cR (cR (cR (cR (cR (bdy Tryz.f180))))))) (sqS (cR (cR (cR (cR (cR (cR (cR (bdy Tryz.f180)))))))) (sq0 (cR (cR (cR (cR (cR (cR (cR (cR (bdy Tryz.f180))))))))) (T180_42 p x call)) rfl) rfl) rfl) rfl) rfl) (by kernel_rfl)
noncomputable def S180_7 (p : Pr) (x : X) (call : CT) (v8 : V) (v9 : V) (v10 : V) (h : H) (s : Sy) : R := p.fa 2 v9 fun v73 => p.l1 v73 h fun v74 => p.ls x 28 v74 s fun v75 s75 => p.gt x 3 v75 (.i .i64 (.ofNat 1472)) s75 fun v76 s76 => p.cd v76 (p.bl x 30 [] fun v77 => p.sn 16 v10 v77 h fun h78 => p.ln 16 v10 h78 fun v80 => .ret ((.t [v80, (.i .i64 (.ofNat 2))], h78), s76)) (S180_11 p x call v8 v9 v10 h s76)
theorem U180_7 (p : Pr) (x : X) (call : CT) : codeSp p x I call 7 6 (cR (cR (bdy Tryz.f180))) (finG p I Tryz.f180.results.toList) = (fun e h s => S180_7 p x call (e 2) (e 3) (e 4) h s) := Eq.trans (sqS (cR (cR (bdy Tryz.f180))) (U180_11 p x call) rfl) (by kernel_rfl)
noncomputable def S180 (p : Pr) (x : X) (call : CT) (v1 : V) (v2 : V) (h : H) (s : Sy) : R := p.bx 30 v1 h fun v3 h3 => p.bx 38 v2 h3 fun v4 h4 => p.al x 30 h4 fun v5 h5 => p.fa 0 v4 fun v81 => p.l1 v81 h5 fun v82 => p.cf call 188 [v82, (.i .i64 (.ofNat 65535))] h5 s fun v83 h83 s83 => p.nt v83 s83 fun v84 s84 => p.g0 v84 (fun κ => p.fa 1 v4 fun v86 => κ v86 h83 s84) h83 s84 fun v87 h87 s87 => p.g0 v84 (fun κ => p.l1 v87 h87 fun v88 => κ v88 h87 s87) h87 s87 fun v89 h89 s89 => p.g0 v84 (fun κ => p.cf call 188 [v89, (.i .i64 (.ofNat 65535))] h89 s89 fun v90 h90 s90 => κ v90 h90 s90) h89 s89 fun v91 h91 s91 => p.g0 v84 (fun κ => p.nt v91 s91 fun v92 s92 => κ v92 h91 s92) h91 s91 fun v93 h93 s93 => p.pk v84 (.b true) v93 fun v94 => p.cd v94 (p.bl x 30 [] fun v95 => p.sn 16 v5 v95 h93 fun h96 => p.ln 16 v5 h96 fun v98 => .ret ((.t [v98, (.i .i64 (.ofNat 1))], h96), s93)) (S180_7 p x call v3 v4 v5 h93 s93)
theorem U180 (p : Pr) (x : X) (call : CT) : codeSp p x I call 7 8 (bdy Tryz.f180) (finG p I Tryz.f180.results.toList) = fun e h s => S180 p x call (e 0) (e 1) h s := Eq.trans (sqS (bdy Tryz.f180) (sqS (cR (bdy Tryz.f180)) (U180_7 p x call) rfl) rfl) (by kernel_rfl)
theorem si180 : Site (cL (cR (cR (cR (cR (cR (cR (cR (cR (bdy Tryz.f180)))))))))) 46 47 7 := ⟨by kernel_rfl, by kernel_rfl, by kernel_rfl, by kernel_rfl, by kernel_rfl, by kernel_rfl, by kernel_rfl, by kernel_rfl, by kernel_rfl, by kernel_rfl, by decide, by decide⟩
theorem sa180 : SiteAt 46 47 7 8 (bdy Tryz.f180) := ⟨by kernel_rfl, ⟨by kernel_rfl, ⟨by kernel_rfl, ⟨by kernel_rfl, ⟨by kernel_rfl, ⟨by kernel_rfl, ⟨by kernel_rfl, ⟨by kernel_rfl, ⟨by kernel_rfl, si180⟩⟩⟩⟩⟩⟩⟩⟩⟩
theorem KS180 : FastOk Tryz.prog 100000 180 (fun x call => wr2 (S180 pr0 x call)) := fast_sel (infP_eq _) (ft_of Tryz.func180) (okAll_mem ok0 Tryz.func180 (by kernel_rfl)) (by kernel_rfl) sa180
 (fun x call e y z h s => by
  have := T180_42 pr0 x call
  show CE pr0 x I call _ _ _ h s = CE pr0 x I call _ _ e h s
  simp only [restAt]
  rw [this]; rfl)
 (fun x call e y z h s w => by
  have := T180_42 pr0 x call
  show CE pr0 x I call _ _ _ h s = CE pr0 x I call _ _ _ h s
  simp only [restAt]
  rw [this]; rfl)
 (fun x call args h s => by
  have := U180 pr0 x call
  rw [show codeSp pr0 x I call 7 8 (bdy Tryz.f180) (finG pr0 I Tryz.f180.results.toList) = _ from this]
  exact wr2_good)
noncomputable def S235_7 (p : Pr) (x : X) (call : CT) (v8 : V) (v9 : V) (v10 : V) (h : H) (s : Sy) : R := p.fa 2 v9 fun v11 => p.l1 v11 h fun v12 => p.ls x 28 v12 s fun v13 s13 => p.ad x 3 (.i .i64 (.ofNat 8)) v13 s13 fun v14 s14 => p.fa 0 v9 fun v16 => p.l1 v16 h fun v17 => p.cf call 233 [.ns, v17] h s14 fun v18 h18 s18 => p.fa 1 v9 fun v19 => p.l1 v19 h18 fun v20 => p.cf call 233 [v18, v20] h18 s18 fun v21 h21 s21 => p.ck (prd (cL (cR (cR (cR (bdy Tryz.f235)))))) .l h (⟨4, (rdL x 3 v19), v20⟩ :: (⟨1, (rdL x 3 v16), v17⟩ :: [])) ((5, h21) :: ((2, h18) :: [])) (p.cf call 233 [v21, v14] h21 s21 fun v25 h25 s25 => p.cf call 233 [v25, (.i .i64 (.ofNat 0))] h25 s25 fun v26 h26 s26 => p.fa 2 v9 fun v27 => p.l1 v27 h26 fun v28 => p.ap x 28 28 v26 v28 h26 s26 fun v29 h29 s29 => p.ck (prd (cL (cR (cR (cR (cR (bdy Tryz.f235))))))) .l h21 (⟨5, (rdL x 28 v27), v28⟩ :: []) ((6, h29) :: ((3, h26) :: ((2, h25) :: []))) (p.fa 5 v8 fun v31 => p.s1 v31 (.i .i64 (.ofNat 17)) h29 fun h32 => p.ln 16 v8 h32 fun v33 => p.cf call 328 [v33, v14] h32 s29 fun v35 h35 s35 => p.bs x 307 2 [(0, v35), (1, v29)] h35 fun v37 h37 => p.cf call 327 [v37] h37 s35 fun v38 h38 s38 => selC v38 s38 fun v70 s70 => F235_40 p x call v8 v10 v29 v70 h38 s70))
theorem U235_7 (p : Pr) (x : X) (call : CT) : codeSp p x I call 8 5 (cR (cR (bdy Tryz.f235))) (finG p I Tryz.f235.results.toList) = (fun e h s => S235_7 p x call (e 2) (e 3) (e 4) h s) := Eq.trans (sqS (cR (cR (bdy Tryz.f235))) (sqS (cR (cR (cR (bdy Tryz.f235)))) (sqS (cR (cR (cR (cR (bdy Tryz.f235))))) (sqS (cR (cR (cR (cR (cR (bdy Tryz.f235)))))) (sqS (cR (cR (cR (cR (cR (cR (bdy Tryz.f235))))))) (sq0 (cR (cR (cR (cR (cR (cR (cR (bdy Tryz.f235)))))))) (T235_40 p x call)) rfl) rfl) rfl) rfl) rfl) (by kernel_rfl)
noncomputable def S235 (p : Pr) (x : X) (call : CT) (v1 : V) (v2 : V) (h : H) (s : Sy) : R := p.bx 278 v1 h fun v3 h3 => p.bx 417 v2 h3 fun v4 h4 => p.al x 278 h4 fun v5 h5 => p.fa 0 v4 fun v72 => p.l1 v72 h5 fun v73 => p.cf call 326 [v73] h5 s fun v74 h74 s74 => p.nt v74 s74 fun v75 s75 => p.g0 v75 (fun κ => p.fa 1 v4 fun v77 => κ v77 h74 s75) h74 s75 fun v78 h78 s78 => p.g0 v75 (fun κ => p.l1 v78 h78 fun v79 => κ v79 h78 s78) h78 s78 fun v80 h80 s80 => p.g0 v75 (fun κ => p.cf call 326 [v80] h80 s80 fun v81 h81 s81 => κ v81 h81 s81) h80 s80 fun v82 h82 s82 => p.g0 v75 (fun κ => p.nt v82 s82 fun v83 s83 => κ v83 h82 s83) h82 s82 fun v84 h84 s84 => p.pk v75 (.b true) v84 fun v85 => p.cd v85 (p.bl x 278 [] fun v87 => p.sn 16 v5 v87 h84 fun h88 => p.ln 16 v5 h88 fun v90 => .ret ((.t [v90, (.i .i64 (.ofNat 1))], h88), s84)) (p.fa 2 v4 fun v91 => p.l1 v91 h84 fun v92 => p.ls x 28 v92 s84 fun v93 s93 => p.gt x 3 v93 (.i .i64 (.ofNat 1472)) s93 fun v94 s94 => p.cd v94 (p.bl x 278 [] fun v96 => p.sn 16 v5 v96 h84 fun h97 => p.ln 16 v5 h97 fun v99 => .ret ((.t [v99, (.i .i64 (.ofNat 2))], h97), s94)) (S235_7 p x call v3 v4 v5 h84 s94))
theorem U235 (p : Pr) (x : X) (call : CT) : codeSp p x I call 8 7 (bdy Tryz.f235) (finG p I Tryz.f235.results.toList) = fun e h s => S235 p x call (e 0) (e 1) h s := Eq.trans (sqS (bdy Tryz.f235) (sqS (cR (bdy Tryz.f235)) (U235_7 p x call) rfl) rfl) (by kernel_rfl)
theorem si235 : Site (cL (cR (cR (cR (cR (cR (cR (cR (bdy Tryz.f235))))))))) 51 52 8 := ⟨by kernel_rfl, by kernel_rfl, by kernel_rfl, by kernel_rfl, by kernel_rfl, by kernel_rfl, by kernel_rfl, by kernel_rfl, by kernel_rfl, by kernel_rfl, by decide, by decide⟩
theorem sa235 : SiteAt 51 52 8 7 (bdy Tryz.f235) := ⟨by kernel_rfl, ⟨by kernel_rfl, ⟨by kernel_rfl, ⟨by kernel_rfl, ⟨by kernel_rfl, ⟨by kernel_rfl, ⟨by kernel_rfl, ⟨by kernel_rfl, si235⟩⟩⟩⟩⟩⟩⟩⟩
theorem KS235 : FastOk Tryz.prog 100000 235 (fun x call => wr2 (S235 pr0 x call)) := fast_sel (infP_eq _) (ft_of Tryz.func235) (okAll_mem ok1 Tryz.func235 (by kernel_rfl)) (by kernel_rfl) sa235
 (fun x call e y z h s => by
  have := T235_40 pr0 x call
  show CE pr0 x I call _ _ _ h s = CE pr0 x I call _ _ e h s
  simp only [restAt]
  rw [this]; rfl)
 (fun x call e y z h s w => by
  have := T235_40 pr0 x call
  show CE pr0 x I call _ _ _ h s = CE pr0 x I call _ _ _ h s
  simp only [restAt]
  rw [this]; rfl)
 (fun x call args h s => by
  have := U235 pr0 x call
  rw [show codeSp pr0 x I call 8 7 (bdy Tryz.f235) (finG pr0 I Tryz.f235.results.toList) = _ from this]
  exact wr2_good)
noncomputable abbrev tabS : Tab := T.put (T.put (tabO) 180 (some (fun x call => wr2 (S180 pr0 x call)))) 235 (some (fun x call => wr2 (S235 pr0 x call)))
theorem tabOkS : TabOk Tryz.prog 100000 tabS := tab_put (tab_put (tabOkO) KS180) KS235
end Go.Proofs.YtpegimipbigmbaaGreatDoor.Bodies
