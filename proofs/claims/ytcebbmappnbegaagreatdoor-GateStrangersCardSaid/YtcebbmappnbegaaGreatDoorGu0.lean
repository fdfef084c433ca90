/- The gateway's start, whole. -/
import Derived.Test.YtcebbmappnbegaaGreatDoorGw0
import Derived.Test.YtcebbmappnbegaaGreatDoorGx0a
import Derived.Test.YtcebbmappnbegaaGreatDoorGx0b
import Derived.Test.YtcebbmappnbegaaGreatDoorGx1a
import Derived.Test.YtcebbmappnbegaaGreatDoorGx1b
import Derived.Test.YtcebbmappnbegaaGreatDoorGx2a
import Derived.Test.YtcebbmappnbegaaGreatDoorGx2b
import Derived.Test.YtcebbmappnbegaaGreatDoorGx3a
import Derived.Test.YtcebbmappnbegaaGreatDoorGx3b
import Derived.Test.YtcebbmappnbegaaGreatDoorGx4a
import Derived.Test.YtcebbmappnbegaaGreatDoorGx4b
import Derived.Test.YtcebbmappnbegaaGreatDoorGx5a
import Derived.Test.YtcebbmappnbegaaGreatDoorGx5b
import Derived.Test.YtcebbmappnbegaaGreatDoorGx6a
import Derived.Test.YtcebbmappnbegaaGreatDoorGx6b
import Derived.Test.YtcebbmappnbegaaGreatDoorGx7a
import Derived.Test.YtcebbmappnbegaaGreatDoorGx7b
import Derived.Test.YtcebbmappnbegaaGreatDoorWv0
import Derived.Test.YtcebbmappnbegaaGreatDoorGs5
set_option linter.unusedSimpArgs false
set_option linter.unusedVariables false
set_option linter.unusedSectionVars false
set_option linter.unnecessarySimpa false
set_option maxRecDepth 100000
namespace Go.Proofs.YtcebbmappnbegaaGreatDoor.Wb
open Go Go.Am
set_option maxHeartbeats 16000000 in
theorem upOk : Ok Tryz.prog 99 20 [] ⟨16, .l⟩ (fun v h' => v = .p 203 0 ∧ Has h' 5950 mm10) := by
  refine K20 fun hbd => ?_
  unfold F20
  have t42 := tt42
  have t56 := tt56
  generalize mkX Tryz.prog = x at t42 t56 ⊢
  simp only [cf_k]
  refine ok_step st0 ⟨rfl, fun r b hb => by simp at hb⟩ fun g1 hb1 a1 _ => ?_
  refine ok_step st1 a1 fun g2 hb2 a2 _ => ?_
  rw [eq_pn t42 rfl]
  simp only [cd_f]
  unfold F20_5
  refine bl_a (v := .a [.i .i64 0, .i .i64 0, .i .i64 0, .i .i64 0, .i .i64 0, .i .u32 5, .i .u32 0, .ns]) (bl_st t56 rfl rfl rfl) ?_
  simp only [cf_k]
  refine ok_step st2 a2 fun g3 hb3 a3 _ => ?_
  refine bl_a (v := .a (actV 3 0 3000)) (bl_st t56 rfl rfl rfl) ?_
  try simp only [cf_k]
  refine do_ok1 (by decide) a3 List.mem_cons_self d0s1 List.mem_cons_self (List.mem_cons_of_mem _ List.mem_cons_self) d0s2 List.mem_cons_self (List.mem_cons_of_mem _ List.mem_cons_self) d0s3 List.mem_cons_self d0s4 d0hr (by decide) fun g4 v4 hb4 a4 => ?_
  replace a4 : Has g4 974 mm3 := a4
  refine bl_a (v := .a (actV 3 0 3000)) (bl_st t56 rfl rfl rfl) ?_
  try simp only [cf_k]
  refine do_ok0 (by decide) a4 List.mem_cons_self d1s1 List.mem_cons_self (List.mem_cons_of_mem _ List.mem_cons_self) d1s2 List.mem_cons_self d1s4 d1hr (by decide) fun g5 v5 hb5 a5 => ?_
  replace a5 : Has g5 1366 mm4 := a5
  rw [S20_21]
  simp only [lt_i, show decide ((0 : Int) < 3) = true from rfl, cd_t]
  unfold F20_24
  refine bl_a (v := .a (actV 2 0 0)) (bl_st t56 rfl rfl rfl) ?_
  try simp only [cf_k]
  refine do_ok1 (by decide) a5 List.mem_cons_self d2s1 List.mem_cons_self (List.mem_cons_of_mem _ List.mem_cons_self) d2s2 List.mem_cons_self (List.mem_cons_of_mem _ List.mem_cons_self) d2s3 List.mem_cons_self d2s4 d2hr (by decide) fun g6 v6 hb6 a6 => ?_
  replace a6 : Has g6 2351 mm5 := a6
  refine bl_a (v := .a (actV 3 0 0)) (bl_st t56 rfl rfl rfl) ?_
  try simp only [cf_k]
  refine do_ok1 (by decide) a6 List.mem_cons_self d3s1 List.mem_cons_self (List.mem_cons_of_mem _ List.mem_cons_self) d3s2 List.mem_cons_self (List.mem_cons_of_mem _ List.mem_cons_self) d3s3 List.mem_cons_self d3s4 d3hr (by decide) fun g7 v7 hb7 a7 => ?_
  replace a7 : Has g7 2832 mm6 := a7
  unfold F20_27
  simp (disch := omega) only [ad_64]
  rw [show (0 : Int) + 1 = 1 from rfl]
  rw [S20_21]
  simp only [lt_i, show decide ((1 : Int) < 3) = true from rfl, cd_t]
  unfold F20_24
  refine bl_a (v := .a (actV 2 1 0)) (bl_st t56 rfl rfl rfl) ?_
  try simp only [cf_k]
  refine do_ok1 (by decide) a7 List.mem_cons_self d4s1 List.mem_cons_self (List.mem_cons_of_mem _ List.mem_cons_self) d4s2 List.mem_cons_self (List.mem_cons_of_mem _ List.mem_cons_self) d4s3 List.mem_cons_self d4s4 d4hr (by decide) fun g8 v8 hb8 a8 => ?_
  replace a8 : Has g8 3877 mm7 := a8
  refine bl_a (v := .a (actV 3 0 0)) (bl_st t56 rfl rfl rfl) ?_
  try simp only [cf_k]
  refine do_ok1 (by decide) a8 List.mem_cons_self d5s1 List.mem_cons_self (List.mem_cons_of_mem _ List.mem_cons_self) d5s2 List.mem_cons_self (List.mem_cons_of_mem _ List.mem_cons_self) d5s3 List.mem_cons_self d5s4 d5hr (by decide) fun g9 v9 hb9 a9 => ?_
  replace a9 : Has g9 4361 mm8 := a9
  unfold F20_27
  simp (disch := omega) only [ad_64]
  rw [show (1 : Int) + 1 = 2 from rfl]
  rw [S20_21]
  simp only [lt_i, show decide ((2 : Int) < 3) = true from rfl, cd_t]
  unfold F20_24
  refine bl_a (v := .a (actV 2 2 0)) (bl_st t56 rfl rfl rfl) ?_
  try simp only [cf_k]
  refine do_ok1 (by decide) a9 List.mem_cons_self d6s1 List.mem_cons_self (List.mem_cons_of_mem _ List.mem_cons_self) d6s2 List.mem_cons_self (List.mem_cons_of_mem _ List.mem_cons_self) d6s3 List.mem_cons_self d6s4 d6hr (by decide) fun g10 v10 hb10 a10 => ?_
  replace a10 : Has g10 5463 mm9 := a10
  refine bl_a (v := .a (actV 3 0 0)) (bl_st t56 rfl rfl rfl) ?_
  try simp only [cf_k]
  refine do_ok1 (by decide) a10 List.mem_cons_self d7s1 List.mem_cons_self (List.mem_cons_of_mem _ List.mem_cons_self) d7s2 List.mem_cons_self (List.mem_cons_of_mem _ List.mem_cons_self) d7s3 List.mem_cons_self d7s4 d7hr (by decide) fun g11 v11 hb11 a11 => ?_
  replace a11 : Has g11 5950 mm10 := a11
  unfold F20_27
  simp (disch := omega) only [ad_64]
  rw [show (2 : Int) + 1 = 3 from rfl]
  rw [S20_21]
  simp only [lt_i, show decide ((3 : Int) < 3) = false from rfl, cd_f]
  unfold F20_16
  exact ⟨rfl, a11⟩
end Go.Proofs.YtcebbmappnbegaaGreatDoor.Wb
