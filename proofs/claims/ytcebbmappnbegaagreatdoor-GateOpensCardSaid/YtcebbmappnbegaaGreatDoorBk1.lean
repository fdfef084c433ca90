/- Bodies of some functions, ready made, and that each is what its code comes to. -/
import Derived.Test.YtcebbmappnbegaaGreatDoorProg
import Derived.Test.YtcebbmappnbegaaGreatDoorBk0
set_option linter.unusedSimpArgs false
set_option linter.unusedVariables false
set_option linter.unusedSectionVars false
set_option linter.unnecessarySimpa false
set_option maxRecDepth 100000
namespace Go.Proofs.YtcebbmappnbegaaGreatDoor.Bodies
open Go.Am

/-! gatehouse/sum16.Add -/
noncomputable def F554 (p : Pr) (x : X) (call : CT) (v1 : V) (v2 : V) (h : H) (s : Sy) : R := p.an x 3 v1 (.i .i64 (.ofNat 65535)) s fun v5 s5 => p.an x 3 v2 (.i .i64 (.ofNat 65535)) s5 fun v7 s7 => p.ad x 3 v5 v7 s7 fun v8 s8 => p.an x 3 v8 (.i .i64 (.ofNat 65535)) s8 fun v11 s11 => p.sr x 3 v8 (.i .u64 (.ofNat 16)) s11 fun v13 s13 => p.ad x 3 v11 v13 s13 fun v14 s14 => .ret ((v14, h), s14)
noncomputable def W554 (x : X) (call : CT) : List V → H → M (V × H) := wr2 (F554 pr0 x call)
theorem T554 (p : Pr) (x : X) (call : CT) : CE p x I call (bdy Tryz.f554) (finG p I Tryz.f554.results.toList) = fun e h s => F554 p x call (e 0) (e 1) h s := by kernel_rfl
/-! slices.IndexFunc[[]gatehouse/pool.held,gatehouse/pool.held] -/
noncomputable def F592_4 (p : Pr) (x : X) (call : CT) (h : H) (s : Sy) : R := .ret (((.i .i64 (.negSucc 0)), h), s)
noncomputable def F592_20 (p : Pr) (x : X) (call : CT) (i9 : V → V → V → V → H → Sy → R) (v21 : V) (v22 : V) (v23 : V) (v24 : V) (h : H) (s : Sy) : R := p.ad x 3 v24 (.i .i64 (.ofNat 1)) s fun v25 s25 => i9 v21 v22 v23 v25 h s25
noncomputable def F592_15 (p : Pr) (x : X) (call : CT) (i9 : V → V → V → V → H → Sy → R) (v16 : V) (v17 : V) (v18 : V) (v19 : V) (h : H) (s : Sy) : R := p.is 12 v16 v19 fun v32 => p.ln 12 v32 h fun v33 => p.cl call v17 [v33] h s fun v34 h34 s34 => p.cd v34 (.ret ((v19, h34), s34)) (F592_20 p x call i9 v16 v17 v18 v19 h34 s34)
noncomputable def F592_9 (p : Pr) (x : X) (call : CT) (n : Nat) : V → V → V → V → H → Sy → R := Nat.rec (motive := fun _ => V → V → V → V → H → Sy → R) (fun _ _ _ _ _ _ => .fail) (fun _ i9 v10 v11 v12 v13 h s => p.lt x 3 v13 v12 s fun v14 s14 => p.cd v14 (F592_15 p x call i9 v10 v11 v12 v13 h s14) (F592_4 p x call h s14)) n
noncomputable def F592 (p : Pr) (x : X) (call : CT) (v1 : V) (v2 : V) (h : H) (s : Sy) : R := p.ls x 393 v1 s fun v7 s7 => F592_9 p x call 100000 v1 v2 v7 (.i .i64 (.ofNat 0)) h s7
noncomputable def W592 (x : X) (call : CT) : List V → H → M (V × H) := wr2 (F592 pr0 x call)
theorem T592_4 (p : Pr) (x : X) (call : CT) : CE p x I call (cR (cR (bdy Tryz.f592))) (finG p I Tryz.f592.results.toList) = (fun e h s => F592_4 p x call h s) := by kernel_rfl
theorem T592_20 (p : Pr) (x : X) (call : CT) (i9 : V → V → V → V → H → Sy → R) : CE p x I call (cR (cR (cR (cL (cL (cR (cL (cR (bdy Tryz.f592))))))))) (ks (fun e h s => i9 (e 0) (e 1) (e 7) (e 8) h s) (bk 0 (ks (fun e h s => F592_4 p x call h s) (finG p I Tryz.f592.results.toList)))) = (fun e h s => F592_20 p x call i9 (e 0) (e 1) (e 7) (e 8) h s) := by kernel_rfl
theorem T592_15 (p : Pr) (x : X) (call : CT) (i9 : V → V → V → V → H → Sy → R) : CE p x I call (cR (cR (cL (cL (cR (cL (cR (bdy Tryz.f592)))))))) (ks (fun e h s => i9 (e 0) (e 1) (e 7) (e 8) h s) (bk 0 (ks (fun e h s => F592_4 p x call h s) (finG p I Tryz.f592.results.toList)))) = (fun e h s => F592_15 p x call i9 (e 0) (e 1) (e 7) (e 8) h s) := Eq.trans (sq2 (cR (cR (cL (cL (cR (cL (cR (bdy Tryz.f592)))))))) (by kernel_rfl) (T592_20 p x call i9) rfl) (by kernel_rfl)
theorem T592_9b (p : Pr) (x : X) (call : CT) (i9 : V → V → V → V → H → Sy → R) : CE p x I call (cL (cL (cR (cL (cR (bdy Tryz.f592)))))) (ks (fun e h s => i9 (e 0) (e 1) (e 7) (e 8) h s) (bk 0 (ks (fun e h s => F592_4 p x call h s) (finG p I Tryz.f592.results.toList)))) = fun e h s => (fun (v10 : V) (v11 : V) (v12 : V) (v13 : V) (h : H) (s : Sy) => p.lt x 3 v13 v12 s fun v14 s14 => p.cd v14 (F592_15 p x call i9 v10 v11 v12 v13 h s14) (F592_4 p x call h s14)) (e 0) (e 1) (e 7) (e 8) h s := Eq.trans (sq2 (cL (cL (cR (cL (cR (bdy Tryz.f592)))))) (by kernel_rfl) (sq2 (cR (cL (cL (cR (cL (cR (bdy Tryz.f592))))))) (by kernel_rfl) (T592_15 p x call i9) rfl) rfl) (by kernel_rfl)
theorem T592_9 (p : Pr) (x : X) (call : CT) : CE p x I call (cL (cR (cL (cR (bdy Tryz.f592))))) (bk 0 (ks (fun e h s => F592_4 p x call h s) (finG p I Tryz.f592.results.toList))) = (fun e h s => F592_9 p x call 100000 (e 0) (e 1) (e 7) (e 8) h s) := lp2 (cL (cR (cL (cR (bdy Tryz.f592))))) (fun n => (fun e h s => F592_9 p x call n (e 0) (e 1) (e 7) (e 8) h s)) (by kernel_rfl) (by kernel_rfl) (fun n => Eq.trans (T592_9b p x call (F592_9 p x call n)) (by kernel_rfl))
theorem T592 (p : Pr) (x : X) (call : CT) : CE p x I call (bdy Tryz.f592) (finG p I Tryz.f592.results.toList) = fun e h s => F592 p x call (e 0) (e 1) h s := Eq.trans (sq2 (bdy Tryz.f592) (by kernel_rfl) (sq2 (cR (bdy Tryz.f592)) (by kernel_rfl) (T592_4 p x call) (sq2 (cL (cR (bdy Tryz.f592))) (by kernel_rfl) (bl2 (cR (cL (cR (bdy Tryz.f592)))) (by kernel_rfl) (T592_9 p x call)) rfl)) rfl) (by kernel_rfl)
/-! (*gatehouse/pool.Pool).barred -/
noncomputable def F594 (p : Pr) (x : X) (call : CT) (v1 : V) (v2 : V) (h : H) (s : Sy) : R := p.bx 27 v2 h fun v3 h3 => p.nl v1 fun v6 => p.fa 5 v6 fun v7 => p.l1 v7 h3 fun v8 => p.nl v1 fun v10 => p.fa 4 v10 fun v11 => p.l1 v11 h3 fun v12 => p.ln 4 v3 h3 fun v13 => p.lk x 394 v12 v13 false h3 fun v14 => p.lt x 2 v8 v14 s fun v15 s15 => .ret ((v15, h3), s15)
noncomputable def W594 (x : X) (call : CT) : List V → H → M (V × H) := wr2 (F594 pr0 x call)
theorem T594 (p : Pr) (x : X) (call : CT) : CE p x I call (bdy Tryz.f594) (finG p I Tryz.f594.results.toList) = fun e h s => F594 p x call (e 0) (e 1) h s := by kernel_rfl
/-! (*gatehouse/pool.Pool).rank -/
noncomputable def F595_12 (p : Pr) (x : X) (call : CT) (v13 : V) (v14 : V) (h : H) (s : Sy) : R := p.nl v13 fun v16 => p.fa 3 v16 fun v17 => p.l1 v17 h fun v18 => p.is 12 v18 v14 fun v20 => p.fa 0 v20 fun v21 => p.fa 10 v21 fun v22 => p.l1 v22 h fun v23 => .ret ((.t [(.i .i64 (.ofNat 2)), v23], h), s)
noncomputable def F595 (p : Pr) (x : X) (call : CT) (v1 : V) (v2 : V) (v3 : V) (h : H) (s : Sy) : R := p.bx 31 v2 h fun v4 h4 => p.bx 27 v3 h4 fun v5 h5 => p.ln 4 v5 h5 fun v9 => p.cf call 547 [v1, v9] h5 s fun v10 h10 s10 => p.lt x 3 v10 (.i .i64 (.ofNat 0)) s10 fun v27 s27 => p.cd v27 (.ret ((.t [(.i .i64 (.ofNat 1)), (.i .i64 (.ofNat 0))], h10), s27)) (p.nl v1 fun v32 => p.fa 3 v32 fun v33 => p.l1 v33 h10 fun v34 => p.is 12 v34 v10 fun v36 => p.fa 0 v36 fun v37 => p.fa 0 v37 fun v38 => p.ln 6 v38 h10 fun v39 => p.ln 6 v4 h10 fun v40 => p.eq x 31 v39 v40 s27 fun v41 s41 => p.cd v41 (.ret ((.t [(.i .i64 (.ofNat 0)), (.i .i64 (.ofNat 0))], h10), s41)) (F595_12 p x call v1 v10 h10 s41))
noncomputable def W595 (x : X) (call : CT) : List V → H → M (V × H) := wr3 (F595 pr0 x call)
theorem T595_12 (p : Pr) (x : X) (call : CT) : CE p x I call (cR (cR (cR (bdy Tryz.f595)))) (finG p I Tryz.f595.results.toList) = (fun e h s => F595_12 p x call (e 0) (e 8) h s) := by kernel_rfl
theorem T595 (p : Pr) (x : X) (call : CT) : CE p x I call (bdy Tryz.f595) (finG p I Tryz.f595.results.toList) = fun e h s => F595 p x call (e 0) (e 1) (e 2) h s := Eq.trans (sq2 (bdy Tryz.f595) (by kernel_rfl) (sq2 (cR (bdy Tryz.f595)) (by kernel_rfl) (sq2 (cR (cR (bdy Tryz.f595))) (by kernel_rfl) (T595_12 p x call) rfl) rfl) rfl) (by kernel_rfl)
/-! (*gatehouse/pool.Pool).of$1 -/
noncomputable def F599 (p : Pr) (x : X) (call : CT) (v1 : V) (v2 : V) (h : H) (s : Sy) : R := p.bx 398 v1 h fun v3 h3 => p.fa 0 v3 fun v5 => p.fa 6 v5 fun v6 => p.ln 4 v6 h3 fun v7 => p.ln 4 v2 h3 fun v8 => p.eq x 27 v7 v8 s fun v9 s9 => .ret ((v9, h3), s9)
noncomputable def W599 (x : X) (call : CT) : List V → H → M (V × H) := wr2 (F599 pr0 x call)
theorem T599 (p : Pr) (x : X) (call : CT) : CE p x I call (bdy Tryz.f599) (finG p I Tryz.f599.results.toList) = fun e h s => F599 p x call (e 0) (e 1) h s := by kernel_rfl
end Go.Proofs.YtcebbmappnbegaaGreatDoor.Bodies
