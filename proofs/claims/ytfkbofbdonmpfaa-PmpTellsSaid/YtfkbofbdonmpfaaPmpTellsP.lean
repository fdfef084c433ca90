/- PmpTells: what its run asks, and that it holds. -/
import Derived.Test.YtfkbofbdonmpfaaPmpTellsD2
import Derived.KernelRfl
set_option linter.unusedSimpArgs false
set_option linter.unusedVariables false
set_option linter.unusedSectionVars false
set_option linter.unnecessarySimpa false
namespace Go.Proofs.Ytfkbofbdonmpfaa.pmpTells
open Go.Am

theorem t66 (a0 a1 : Int) (l0 : (-9223372036854775808 : Int) ≤ a0) (u0 : a0 ≤ (9223372036854775807 : Int)) (l1 : (-9223372036854775808 : Int) ≤ a1) (u1 : a1 ≤ (9223372036854775807 : Int)) (f0 : ¬ a0 < (0 : Int)) (f3 : ¬ (600 : Int) < a1) (f4 : ¬ (0 : Int) < a0) (f335 : (331 : Int) ≤ a1) : R861.holds [a0, a1] := by
 refine Pt.h_fork (fun (f336 : (332 : Int) ≤ a1) => ?_) (fun (f336 : ¬ (332 : Int) ≤ a1) => Pt.h_done)
 refine Pt.h_fork (fun (f337 : (333 : Int) ≤ a1) => ?_) (fun (f337 : ¬ (333 : Int) ≤ a1) => Pt.h_done)
 refine Pt.h_fork (fun (f338 : (334 : Int) ≤ a1) => ?_) (fun (f338 : ¬ (334 : Int) ≤ a1) => Pt.h_done)
 refine Pt.h_fork (fun (f339 : (335 : Int) ≤ a1) => ?_) (fun (f339 : ¬ (335 : Int) ≤ a1) => Pt.h_done)
 refine Pt.h_fork (fun (f340 : (336 : Int) ≤ a1) => ?_) (fun (f340 : ¬ (336 : Int) ≤ a1) => Pt.h_done)
 refine Pt.h_fork (fun (f341 : (337 : Int) ≤ a1) => ?_) (fun (f341 : ¬ (337 : Int) ≤ a1) => Pt.h_done)
 refine Pt.h_fork (fun (f342 : (338 : Int) ≤ a1) => ?_) (fun (f342 : ¬ (338 : Int) ≤ a1) => Pt.h_done)
 refine Pt.h_fork (fun (f343 : (339 : Int) ≤ a1) => ?_) (fun (f343 : ¬ (339 : Int) ≤ a1) => Pt.h_done)
 refine Pt.h_fork (fun (f344 : (340 : Int) ≤ a1) => ?_) (fun (f344 : ¬ (340 : Int) ≤ a1) => Pt.h_done)
 refine Pt.h_fork (fun (f345 : (341 : Int) ≤ a1) => ?_) (fun (f345 : ¬ (341 : Int) ≤ a1) => Pt.h_done)
 refine Pt.h_fork (fun (f346 : (342 : Int) ≤ a1) => ?_) (fun (f346 : ¬ (342 : Int) ≤ a1) => Pt.h_done)
 refine Pt.h_fork (fun (f347 : (343 : Int) ≤ a1) => ?_) (fun (f347 : ¬ (343 : Int) ≤ a1) => Pt.h_done)
 refine Pt.h_fork (fun (f348 : (344 : Int) ≤ a1) => ?_) (fun (f348 : ¬ (344 : Int) ≤ a1) => Pt.h_done)
 refine Pt.h_fork (fun (f349 : (345 : Int) ≤ a1) => ?_) (fun (f349 : ¬ (345 : Int) ≤ a1) => Pt.h_done)
 exact t67 a0 a1 l0 u0 l1 u1 f0 f3 f4 f349

theorem t65 (a0 a1 : Int) (l0 : (-9223372036854775808 : Int) ≤ a0) (u0 : a0 ≤ (9223372036854775807 : Int)) (l1 : (-9223372036854775808 : Int) ≤ a1) (u1 : a1 ≤ (9223372036854775807 : Int)) (f0 : ¬ a0 < (0 : Int)) (f3 : ¬ (600 : Int) < a1) (f4 : ¬ (0 : Int) < a0) (f321 : (317 : Int) ≤ a1) : R875.holds [a0, a1] := by
 refine Pt.h_fork (fun (f322 : (318 : Int) ≤ a1) => ?_) (fun (f322 : ¬ (318 : Int) ≤ a1) => Pt.h_done)
 refine Pt.h_fork (fun (f323 : (319 : Int) ≤ a1) => ?_) (fun (f323 : ¬ (319 : Int) ≤ a1) => Pt.h_done)
 refine Pt.h_fork (fun (f324 : (320 : Int) ≤ a1) => ?_) (fun (f324 : ¬ (320 : Int) ≤ a1) => Pt.h_done)
 refine Pt.h_fork (fun (f325 : (321 : Int) ≤ a1) => ?_) (fun (f325 : ¬ (321 : Int) ≤ a1) => Pt.h_done)
 refine Pt.h_fork (fun (f326 : (322 : Int) ≤ a1) => ?_) (fun (f326 : ¬ (322 : Int) ≤ a1) => Pt.h_done)
 refine Pt.h_fork (fun (f327 : (323 : Int) ≤ a1) => ?_) (fun (f327 : ¬ (323 : Int) ≤ a1) => Pt.h_done)
 refine Pt.h_fork (fun (f328 : (324 : Int) ≤ a1) => ?_) (fun (f328 : ¬ (324 : Int) ≤ a1) => Pt.h_done)
 refine Pt.h_fork (fun (f329 : (325 : Int) ≤ a1) => ?_) (fun (f329 : ¬ (325 : Int) ≤ a1) => Pt.h_done)
 refine Pt.h_fork (fun (f330 : (326 : Int) ≤ a1) => ?_) (fun (f330 : ¬ (326 : Int) ≤ a1) => Pt.h_done)
 refine Pt.h_fork (fun (f331 : (327 : Int) ≤ a1) => ?_) (fun (f331 : ¬ (327 : Int) ≤ a1) => Pt.h_done)
 refine Pt.h_fork (fun (f332 : (328 : Int) ≤ a1) => ?_) (fun (f332 : ¬ (328 : Int) ≤ a1) => Pt.h_done)
 refine Pt.h_fork (fun (f333 : (329 : Int) ≤ a1) => ?_) (fun (f333 : ¬ (329 : Int) ≤ a1) => Pt.h_done)
 refine Pt.h_fork (fun (f334 : (330 : Int) ≤ a1) => ?_) (fun (f334 : ¬ (330 : Int) ≤ a1) => Pt.h_done)
 refine Pt.h_fork (fun (f335 : (331 : Int) ≤ a1) => ?_) (fun (f335 : ¬ (331 : Int) ≤ a1) => Pt.h_done)
 exact t66 a0 a1 l0 u0 l1 u1 f0 f3 f4 f335

theorem t64 (a0 a1 : Int) (l0 : (-9223372036854775808 : Int) ≤ a0) (u0 : a0 ≤ (9223372036854775807 : Int)) (l1 : (-9223372036854775808 : Int) ≤ a1) (u1 : a1 ≤ (9223372036854775807 : Int)) (f0 : ¬ a0 < (0 : Int)) (f3 : ¬ (600 : Int) < a1) (f4 : ¬ (0 : Int) < a0) (f307 : (303 : Int) ≤ a1) : R889.holds [a0, a1] := by
 refine Pt.h_fork (fun (f308 : (304 : Int) ≤ a1) => ?_) (fun (f308 : ¬ (304 : Int) ≤ a1) => Pt.h_done)
 refine Pt.h_fork (fun (f309 : (305 : Int) ≤ a1) => ?_) (fun (f309 : ¬ (305 : Int) ≤ a1) => Pt.h_done)
 refine Pt.h_fork (fun (f310 : (306 : Int) ≤ a1) => ?_) (fun (f310 : ¬ (306 : Int) ≤ a1) => Pt.h_done)
 refine Pt.h_fork (fun (f311 : (307 : Int) ≤ a1) => ?_) (fun (f311 : ¬ (307 : Int) ≤ a1) => Pt.h_done)
 refine Pt.h_fork (fun (f312 : (308 : Int) ≤ a1) => ?_) (fun (f312 : ¬ (308 : Int) ≤ a1) => Pt.h_done)
 refine Pt.h_fork (fun (f313 : (309 : Int) ≤ a1) => ?_) (fun (f313 : ¬ (309 : Int) ≤ a1) => Pt.h_done)
 refine Pt.h_fork (fun (f314 : (310 : Int) ≤ a1) => ?_) (fun (f314 : ¬ (310 : Int) ≤ a1) => Pt.h_done)
 refine Pt.h_fork (fun (f315 : (311 : Int) ≤ a1) => ?_) (fun (f315 : ¬ (311 : Int) ≤ a1) => Pt.h_done)
 refine Pt.h_fork (fun (f316 : (312 : Int) ≤ a1) => ?_) (fun (f316 : ¬ (312 : Int) ≤ a1) => Pt.h_done)
 refine Pt.h_fork (fun (f317 : (313 : Int) ≤ a1) => ?_) (fun (f317 : ¬ (313 : Int) ≤ a1) => Pt.h_done)
 refine Pt.h_fork (fun (f318 : (314 : Int) ≤ a1) => ?_) (fun (f318 : ¬ (314 : Int) ≤ a1) => Pt.h_done)
 refine Pt.h_fork (fun (f319 : (315 : Int) ≤ a1) => ?_) (fun (f319 : ¬ (315 : Int) ≤ a1) => Pt.h_done)
 refine Pt.h_fork (fun (f320 : (316 : Int) ≤ a1) => ?_) (fun (f320 : ¬ (316 : Int) ≤ a1) => Pt.h_done)
 refine Pt.h_fork (fun (f321 : (317 : Int) ≤ a1) => ?_) (fun (f321 : ¬ (317 : Int) ≤ a1) => Pt.h_done)
 exact t65 a0 a1 l0 u0 l1 u1 f0 f3 f4 f321

theorem t63 (a0 a1 : Int) (l0 : (-9223372036854775808 : Int) ≤ a0) (u0 : a0 ≤ (9223372036854775807 : Int)) (l1 : (-9223372036854775808 : Int) ≤ a1) (u1 : a1 ≤ (9223372036854775807 : Int)) (f0 : ¬ a0 < (0 : Int)) (f3 : ¬ (600 : Int) < a1) (f4 : ¬ (0 : Int) < a0) (f293 : (289 : Int) ≤ a1) : R903.holds [a0, a1] := by
 refine Pt.h_fork (fun (f294 : (290 : Int) ≤ a1) => ?_) (fun (f294 : ¬ (290 : Int) ≤ a1) => Pt.h_done)
 refine Pt.h_fork (fun (f295 : (291 : Int) ≤ a1) => ?_) (fun (f295 : ¬ (291 : Int) ≤ a1) => Pt.h_done)
 refine Pt.h_fork (fun (f296 : (292 : Int) ≤ a1) => ?_) (fun (f296 : ¬ (292 : Int) ≤ a1) => Pt.h_done)
 refine Pt.h_fork (fun (f297 : (293 : Int) ≤ a1) => ?_) (fun (f297 : ¬ (293 : Int) ≤ a1) => Pt.h_done)
 refine Pt.h_fork (fun (f298 : (294 : Int) ≤ a1) => ?_) (fun (f298 : ¬ (294 : Int) ≤ a1) => Pt.h_done)
 refine Pt.h_fork (fun (f299 : (295 : Int) ≤ a1) => ?_) (fun (f299 : ¬ (295 : Int) ≤ a1) => Pt.h_done)
 refine Pt.h_fork (fun (f300 : (296 : Int) ≤ a1) => ?_) (fun (f300 : ¬ (296 : Int) ≤ a1) => Pt.h_done)
 refine Pt.h_fork (fun (f301 : (297 : Int) ≤ a1) => ?_) (fun (f301 : ¬ (297 : Int) ≤ a1) => Pt.h_done)
 refine Pt.h_fork (fun (f302 : (298 : Int) ≤ a1) => ?_) (fun (f302 : ¬ (298 : Int) ≤ a1) => Pt.h_done)
 refine Pt.h_fork (fun (f303 : (299 : Int) ≤ a1) => ?_) (fun (f303 : ¬ (299 : Int) ≤ a1) => Pt.h_done)
 refine Pt.h_fork (fun (f304 : (300 : Int) ≤ a1) => ?_) (fun (f304 : ¬ (300 : Int) ≤ a1) => Pt.h_done)
 refine Pt.h_fork (fun (f305 : (301 : Int) ≤ a1) => ?_) (fun (f305 : ¬ (301 : Int) ≤ a1) => Pt.h_done)
 refine Pt.h_fork (fun (f306 : (302 : Int) ≤ a1) => ?_) (fun (f306 : ¬ (302 : Int) ≤ a1) => Pt.h_done)
 refine Pt.h_fork (fun (f307 : (303 : Int) ≤ a1) => ?_) (fun (f307 : ¬ (303 : Int) ≤ a1) => Pt.h_done)
 exact t64 a0 a1 l0 u0 l1 u1 f0 f3 f4 f307

theorem t62 (a0 a1 : Int) (l0 : (-9223372036854775808 : Int) ≤ a0) (u0 : a0 ≤ (9223372036854775807 : Int)) (l1 : (-9223372036854775808 : Int) ≤ a1) (u1 : a1 ≤ (9223372036854775807 : Int)) (f0 : ¬ a0 < (0 : Int)) (f3 : ¬ (600 : Int) < a1) (f4 : ¬ (0 : Int) < a0) (f279 : (275 : Int) ≤ a1) : R917.holds [a0, a1] := by
 refine Pt.h_fork (fun (f280 : (276 : Int) ≤ a1) => ?_) (fun (f280 : ¬ (276 : Int) ≤ a1) => Pt.h_done)
 refine Pt.h_fork (fun (f281 : (277 : Int) ≤ a1) => ?_) (fun (f281 : ¬ (277 : Int) ≤ a1) => Pt.h_done)
 refine Pt.h_fork (fun (f282 : (278 : Int) ≤ a1) => ?_) (fun (f282 : ¬ (278 : Int) ≤ a1) => Pt.h_done)
 refine Pt.h_fork (fun (f283 : (279 : Int) ≤ a1) => ?_) (fun (f283 : ¬ (279 : Int) ≤ a1) => Pt.h_done)
 refine Pt.h_fork (fun (f284 : (280 : Int) ≤ a1) => ?_) (fun (f284 : ¬ (280 : Int) ≤ a1) => Pt.h_done)
 refine Pt.h_fork (fun (f285 : (281 : Int) ≤ a1) => ?_) (fun (f285 : ¬ (281 : Int) ≤ a1) => Pt.h_done)
 refine Pt.h_fork (fun (f286 : (282 : Int) ≤ a1) => ?_) (fun (f286 : ¬ (282 : Int) ≤ a1) => Pt.h_done)
 refine Pt.h_fork (fun (f287 : (283 : Int) ≤ a1) => ?_) (fun (f287 : ¬ (283 : Int) ≤ a1) => Pt.h_done)
 refine Pt.h_fork (fun (f288 : (284 : Int) ≤ a1) => ?_) (fun (f288 : ¬ (284 : Int) ≤ a1) => Pt.h_done)
 refine Pt.h_fork (fun (f289 : (285 : Int) ≤ a1) => ?_) (fun (f289 : ¬ (285 : Int) ≤ a1) => Pt.h_done)
 refine Pt.h_fork (fun (f290 : (286 : Int) ≤ a1) => ?_) (fun (f290 : ¬ (286 : Int) ≤ a1) => Pt.h_done)
 refine Pt.h_fork (fun (f291 : (287 : Int) ≤ a1) => ?_) (fun (f291 : ¬ (287 : Int) ≤ a1) => Pt.h_done)
 refine Pt.h_fork (fun (f292 : (288 : Int) ≤ a1) => ?_) (fun (f292 : ¬ (288 : Int) ≤ a1) => Pt.h_done)
 refine Pt.h_fork (fun (f293 : (289 : Int) ≤ a1) => ?_) (fun (f293 : ¬ (289 : Int) ≤ a1) => Pt.h_done)
 exact t63 a0 a1 l0 u0 l1 u1 f0 f3 f4 f293

theorem t61 (a0 a1 : Int) (l0 : (-9223372036854775808 : Int) ≤ a0) (u0 : a0 ≤ (9223372036854775807 : Int)) (l1 : (-9223372036854775808 : Int) ≤ a1) (u1 : a1 ≤ (9223372036854775807 : Int)) (f0 : ¬ a0 < (0 : Int)) (f3 : ¬ (600 : Int) < a1) (f4 : ¬ (0 : Int) < a0) (f265 : (261 : Int) ≤ a1) : R931.holds [a0, a1] := by
 refine Pt.h_fork (fun (f266 : (262 : Int) ≤ a1) => ?_) (fun (f266 : ¬ (262 : Int) ≤ a1) => Pt.h_done)
 refine Pt.h_fork (fun (f267 : (263 : Int) ≤ a1) => ?_) (fun (f267 : ¬ (263 : Int) ≤ a1) => Pt.h_done)
 refine Pt.h_fork (fun (f268 : (264 : Int) ≤ a1) => ?_) (fun (f268 : ¬ (264 : Int) ≤ a1) => Pt.h_done)
 refine Pt.h_fork (fun (f269 : (265 : Int) ≤ a1) => ?_) (fun (f269 : ¬ (265 : Int) ≤ a1) => Pt.h_done)
 refine Pt.h_fork (fun (f270 : (266 : Int) ≤ a1) => ?_) (fun (f270 : ¬ (266 : Int) ≤ a1) => Pt.h_done)
 refine Pt.h_fork (fun (f271 : (267 : Int) ≤ a1) => ?_) (fun (f271 : ¬ (267 : Int) ≤ a1) => Pt.h_done)
 refine Pt.h_fork (fun (f272 : (268 : Int) ≤ a1) => ?_) (fun (f272 : ¬ (268 : Int) ≤ a1) => Pt.h_done)
 refine Pt.h_fork (fun (f273 : (269 : Int) ≤ a1) => ?_) (fun (f273 : ¬ (269 : Int) ≤ a1) => Pt.h_done)
 refine Pt.h_fork (fun (f274 : (270 : Int) ≤ a1) => ?_) (fun (f274 : ¬ (270 : Int) ≤ a1) => Pt.h_done)
 refine Pt.h_fork (fun (f275 : (271 : Int) ≤ a1) => ?_) (fun (f275 : ¬ (271 : Int) ≤ a1) => Pt.h_done)
 refine Pt.h_fork (fun (f276 : (272 : Int) ≤ a1) => ?_) (fun (f276 : ¬ (272 : Int) ≤ a1) => Pt.h_done)
 refine Pt.h_fork (fun (f277 : (273 : Int) ≤ a1) => ?_) (fun (f277 : ¬ (273 : Int) ≤ a1) => Pt.h_done)
 refine Pt.h_fork (fun (f278 : (274 : Int) ≤ a1) => ?_) (fun (f278 : ¬ (274 : Int) ≤ a1) => Pt.h_done)
 refine Pt.h_fork (fun (f279 : (275 : Int) ≤ a1) => ?_) (fun (f279 : ¬ (275 : Int) ≤ a1) => Pt.h_done)
 exact t62 a0 a1 l0 u0 l1 u1 f0 f3 f4 f279

theorem t60 (a0 a1 : Int) (l0 : (-9223372036854775808 : Int) ≤ a0) (u0 : a0 ≤ (9223372036854775807 : Int)) (l1 : (-9223372036854775808 : Int) ≤ a1) (u1 : a1 ≤ (9223372036854775807 : Int)) (f0 : ¬ a0 < (0 : Int)) (f3 : ¬ (600 : Int) < a1) (f4 : ¬ (0 : Int) < a0) (f251 : (247 : Int) ≤ a1) : R945.holds [a0, a1] := by
 refine Pt.h_fork (fun (f252 : (248 : Int) ≤ a1) => ?_) (fun (f252 : ¬ (248 : Int) ≤ a1) => Pt.h_done)
 refine Pt.h_fork (fun (f253 : (249 : Int) ≤ a1) => ?_) (fun (f253 : ¬ (249 : Int) ≤ a1) => Pt.h_done)
 refine Pt.h_fork (fun (f254 : (250 : Int) ≤ a1) => ?_) (fun (f254 : ¬ (250 : Int) ≤ a1) => Pt.h_done)
 refine Pt.h_fork (fun (f255 : (251 : Int) ≤ a1) => ?_) (fun (f255 : ¬ (251 : Int) ≤ a1) => Pt.h_done)
 refine Pt.h_fork (fun (f256 : (252 : Int) ≤ a1) => ?_) (fun (f256 : ¬ (252 : Int) ≤ a1) => Pt.h_done)
 refine Pt.h_fork (fun (f257 : (253 : Int) ≤ a1) => ?_) (fun (f257 : ¬ (253 : Int) ≤ a1) => Pt.h_done)
 refine Pt.h_fork (fun (f258 : (254 : Int) ≤ a1) => ?_) (fun (f258 : ¬ (254 : Int) ≤ a1) => Pt.h_done)
 refine Pt.h_fork (fun (f259 : (255 : Int) ≤ a1) => ?_) (fun (f259 : ¬ (255 : Int) ≤ a1) => Pt.h_done)
 refine Pt.h_fork (fun (f260 : (256 : Int) ≤ a1) => ?_) (fun (f260 : ¬ (256 : Int) ≤ a1) => Pt.h_done)
 refine Pt.h_fork (fun (f261 : (257 : Int) ≤ a1) => ?_) (fun (f261 : ¬ (257 : Int) ≤ a1) => Pt.h_done)
 refine Pt.h_fork (fun (f262 : (258 : Int) ≤ a1) => ?_) (fun (f262 : ¬ (258 : Int) ≤ a1) => Pt.h_done)
 refine Pt.h_fork (fun (f263 : (259 : Int) ≤ a1) => ?_) (fun (f263 : ¬ (259 : Int) ≤ a1) => Pt.h_done)
 refine Pt.h_fork (fun (f264 : (260 : Int) ≤ a1) => ?_) (fun (f264 : ¬ (260 : Int) ≤ a1) => Pt.h_done)
 refine Pt.h_fork (fun (f265 : (261 : Int) ≤ a1) => ?_) (fun (f265 : ¬ (261 : Int) ≤ a1) => Pt.h_done)
 exact t61 a0 a1 l0 u0 l1 u1 f0 f3 f4 f265

theorem t59 (a0 a1 : Int) (l0 : (-9223372036854775808 : Int) ≤ a0) (u0 : a0 ≤ (9223372036854775807 : Int)) (l1 : (-9223372036854775808 : Int) ≤ a1) (u1 : a1 ≤ (9223372036854775807 : Int)) (f0 : ¬ a0 < (0 : Int)) (f3 : ¬ (600 : Int) < a1) (f4 : ¬ (0 : Int) < a0) (f237 : (233 : Int) ≤ a1) : R959.holds [a0, a1] := by
 refine Pt.h_fork (fun (f238 : (234 : Int) ≤ a1) => ?_) (fun (f238 : ¬ (234 : Int) ≤ a1) => Pt.h_done)
 refine Pt.h_fork (fun (f239 : (235 : Int) ≤ a1) => ?_) (fun (f239 : ¬ (235 : Int) ≤ a1) => Pt.h_done)
 refine Pt.h_fork (fun (f240 : (236 : Int) ≤ a1) => ?_) (fun (f240 : ¬ (236 : Int) ≤ a1) => Pt.h_done)
 refine Pt.h_fork (fun (f241 : (237 : Int) ≤ a1) => ?_) (fun (f241 : ¬ (237 : Int) ≤ a1) => Pt.h_done)
 refine Pt.h_fork (fun (f242 : (238 : Int) ≤ a1) => ?_) (fun (f242 : ¬ (238 : Int) ≤ a1) => Pt.h_done)
 refine Pt.h_fork (fun (f243 : (239 : Int) ≤ a1) => ?_) (fun (f243 : ¬ (239 : Int) ≤ a1) => Pt.h_done)
 refine Pt.h_fork (fun (f244 : (240 : Int) ≤ a1) => ?_) (fun (f244 : ¬ (240 : Int) ≤ a1) => Pt.h_done)
 refine Pt.h_fork (fun (f245 : (241 : Int) ≤ a1) => ?_) (fun (f245 : ¬ (241 : Int) ≤ a1) => Pt.h_done)
 refine Pt.h_fork (fun (f246 : (242 : Int) ≤ a1) => ?_) (fun (f246 : ¬ (242 : Int) ≤ a1) => Pt.h_done)
 refine Pt.h_fork (fun (f247 : (243 : Int) ≤ a1) => ?_) (fun (f247 : ¬ (243 : Int) ≤ a1) => Pt.h_done)
 refine Pt.h_fork (fun (f248 : (244 : Int) ≤ a1) => ?_) (fun (f248 : ¬ (244 : Int) ≤ a1) => Pt.h_done)
 refine Pt.h_fork (fun (f249 : (245 : Int) ≤ a1) => ?_) (fun (f249 : ¬ (245 : Int) ≤ a1) => Pt.h_done)
 refine Pt.h_fork (fun (f250 : (246 : Int) ≤ a1) => ?_) (fun (f250 : ¬ (246 : Int) ≤ a1) => Pt.h_done)
 refine Pt.h_fork (fun (f251 : (247 : Int) ≤ a1) => ?_) (fun (f251 : ¬ (247 : Int) ≤ a1) => Pt.h_done)
 exact t60 a0 a1 l0 u0 l1 u1 f0 f3 f4 f251

theorem t58 (a0 a1 : Int) (l0 : (-9223372036854775808 : Int) ≤ a0) (u0 : a0 ≤ (9223372036854775807 : Int)) (l1 : (-9223372036854775808 : Int) ≤ a1) (u1 : a1 ≤ (9223372036854775807 : Int)) (f0 : ¬ a0 < (0 : Int)) (f3 : ¬ (600 : Int) < a1) (f4 : ¬ (0 : Int) < a0) (f223 : (219 : Int) ≤ a1) : R973.holds [a0, a1] := by
 refine Pt.h_fork (fun (f224 : (220 : Int) ≤ a1) => ?_) (fun (f224 : ¬ (220 : Int) ≤ a1) => Pt.h_done)
 refine Pt.h_fork (fun (f225 : (221 : Int) ≤ a1) => ?_) (fun (f225 : ¬ (221 : Int) ≤ a1) => Pt.h_done)
 refine Pt.h_fork (fun (f226 : (222 : Int) ≤ a1) => ?_) (fun (f226 : ¬ (222 : Int) ≤ a1) => Pt.h_done)
 refine Pt.h_fork (fun (f227 : (223 : Int) ≤ a1) => ?_) (fun (f227 : ¬ (223 : Int) ≤ a1) => Pt.h_done)
 refine Pt.h_fork (fun (f228 : (224 : Int) ≤ a1) => ?_) (fun (f228 : ¬ (224 : Int) ≤ a1) => Pt.h_done)
 refine Pt.h_fork (fun (f229 : (225 : Int) ≤ a1) => ?_) (fun (f229 : ¬ (225 : Int) ≤ a1) => Pt.h_done)
 refine Pt.h_fork (fun (f230 : (226 : Int) ≤ a1) => ?_) (fun (f230 : ¬ (226 : Int) ≤ a1) => Pt.h_done)
 refine Pt.h_fork (fun (f231 : (227 : Int) ≤ a1) => ?_) (fun (f231 : ¬ (227 : Int) ≤ a1) => Pt.h_done)
 refine Pt.h_fork (fun (f232 : (228 : Int) ≤ a1) => ?_) (fun (f232 : ¬ (228 : Int) ≤ a1) => Pt.h_done)
 refine Pt.h_fork (fun (f233 : (229 : Int) ≤ a1) => ?_) (fun (f233 : ¬ (229 : Int) ≤ a1) => Pt.h_done)
 refine Pt.h_fork (fun (f234 : (230 : Int) ≤ a1) => ?_) (fun (f234 : ¬ (230 : Int) ≤ a1) => Pt.h_done)
 refine Pt.h_fork (fun (f235 : (231 : Int) ≤ a1) => ?_) (fun (f235 : ¬ (231 : Int) ≤ a1) => Pt.h_done)
 refine Pt.h_fork (fun (f236 : (232 : Int) ≤ a1) => ?_) (fun (f236 : ¬ (232 : Int) ≤ a1) => Pt.h_done)
 refine Pt.h_fork (fun (f237 : (233 : Int) ≤ a1) => ?_) (fun (f237 : ¬ (233 : Int) ≤ a1) => Pt.h_done)
 exact t59 a0 a1 l0 u0 l1 u1 f0 f3 f4 f237

theorem t57 (a0 a1 : Int) (l0 : (-9223372036854775808 : Int) ≤ a0) (u0 : a0 ≤ (9223372036854775807 : Int)) (l1 : (-9223372036854775808 : Int) ≤ a1) (u1 : a1 ≤ (9223372036854775807 : Int)) (f0 : ¬ a0 < (0 : Int)) (f3 : ¬ (600 : Int) < a1) (f4 : ¬ (0 : Int) < a0) (f209 : (205 : Int) ≤ a1) : R987.holds [a0, a1] := by
 refine Pt.h_fork (fun (f210 : (206 : Int) ≤ a1) => ?_) (fun (f210 : ¬ (206 : Int) ≤ a1) => Pt.h_done)
 refine Pt.h_fork (fun (f211 : (207 : Int) ≤ a1) => ?_) (fun (f211 : ¬ (207 : Int) ≤ a1) => Pt.h_done)
 refine Pt.h_fork (fun (f212 : (208 : Int) ≤ a1) => ?_) (fun (f212 : ¬ (208 : Int) ≤ a1) => Pt.h_done)
 refine Pt.h_fork (fun (f213 : (209 : Int) ≤ a1) => ?_) (fun (f213 : ¬ (209 : Int) ≤ a1) => Pt.h_done)
 refine Pt.h_fork (fun (f214 : (210 : Int) ≤ a1) => ?_) (fun (f214 : ¬ (210 : Int) ≤ a1) => Pt.h_done)
 refine Pt.h_fork (fun (f215 : (211 : Int) ≤ a1) => ?_) (fun (f215 : ¬ (211 : Int) ≤ a1) => Pt.h_done)
 refine Pt.h_fork (fun (f216 : (212 : Int) ≤ a1) => ?_) (fun (f216 : ¬ (212 : Int) ≤ a1) => Pt.h_done)
 refine Pt.h_fork (fun (f217 : (213 : Int) ≤ a1) => ?_) (fun (f217 : ¬ (213 : Int) ≤ a1) => Pt.h_done)
 refine Pt.h_fork (fun (f218 : (214 : Int) ≤ a1) => ?_) (fun (f218 : ¬ (214 : Int) ≤ a1) => Pt.h_done)
 refine Pt.h_fork (fun (f219 : (215 : Int) ≤ a1) => ?_) (fun (f219 : ¬ (215 : Int) ≤ a1) => Pt.h_done)
 refine Pt.h_fork (fun (f220 : (216 : Int) ≤ a1) => ?_) (fun (f220 : ¬ (216 : Int) ≤ a1) => Pt.h_done)
 refine Pt.h_fork (fun (f221 : (217 : Int) ≤ a1) => ?_) (fun (f221 : ¬ (217 : Int) ≤ a1) => Pt.h_done)
 refine Pt.h_fork (fun (f222 : (218 : Int) ≤ a1) => ?_) (fun (f222 : ¬ (218 : Int) ≤ a1) => Pt.h_done)
 refine Pt.h_fork (fun (f223 : (219 : Int) ≤ a1) => ?_) (fun (f223 : ¬ (219 : Int) ≤ a1) => Pt.h_done)
 exact t58 a0 a1 l0 u0 l1 u1 f0 f3 f4 f223

theorem t56 (a0 a1 : Int) (l0 : (-9223372036854775808 : Int) ≤ a0) (u0 : a0 ≤ (9223372036854775807 : Int)) (l1 : (-9223372036854775808 : Int) ≤ a1) (u1 : a1 ≤ (9223372036854775807 : Int)) (f0 : ¬ a0 < (0 : Int)) (f3 : ¬ (600 : Int) < a1) (f4 : ¬ (0 : Int) < a0) (f195 : (191 : Int) ≤ a1) : R1001.holds [a0, a1] := by
 refine Pt.h_fork (fun (f196 : (192 : Int) ≤ a1) => ?_) (fun (f196 : ¬ (192 : Int) ≤ a1) => Pt.h_done)
 refine Pt.h_fork (fun (f197 : (193 : Int) ≤ a1) => ?_) (fun (f197 : ¬ (193 : Int) ≤ a1) => Pt.h_done)
 refine Pt.h_fork (fun (f198 : (194 : Int) ≤ a1) => ?_) (fun (f198 : ¬ (194 : Int) ≤ a1) => Pt.h_done)
 refine Pt.h_fork (fun (f199 : (195 : Int) ≤ a1) => ?_) (fun (f199 : ¬ (195 : Int) ≤ a1) => Pt.h_done)
 refine Pt.h_fork (fun (f200 : (196 : Int) ≤ a1) => ?_) (fun (f200 : ¬ (196 : Int) ≤ a1) => Pt.h_done)
 refine Pt.h_fork (fun (f201 : (197 : Int) ≤ a1) => ?_) (fun (f201 : ¬ (197 : Int) ≤ a1) => Pt.h_done)
 refine Pt.h_fork (fun (f202 : (198 : Int) ≤ a1) => ?_) (fun (f202 : ¬ (198 : Int) ≤ a1) => Pt.h_done)
 refine Pt.h_fork (fun (f203 : (199 : Int) ≤ a1) => ?_) (fun (f203 : ¬ (199 : Int) ≤ a1) => Pt.h_done)
 refine Pt.h_fork (fun (f204 : (200 : Int) ≤ a1) => ?_) (fun (f204 : ¬ (200 : Int) ≤ a1) => Pt.h_done)
 refine Pt.h_fork (fun (f205 : (201 : Int) ≤ a1) => ?_) (fun (f205 : ¬ (201 : Int) ≤ a1) => Pt.h_done)
 refine Pt.h_fork (fun (f206 : (202 : Int) ≤ a1) => ?_) (fun (f206 : ¬ (202 : Int) ≤ a1) => Pt.h_done)
 refine Pt.h_fork (fun (f207 : (203 : Int) ≤ a1) => ?_) (fun (f207 : ¬ (203 : Int) ≤ a1) => Pt.h_done)
 refine Pt.h_fork (fun (f208 : (204 : Int) ≤ a1) => ?_) (fun (f208 : ¬ (204 : Int) ≤ a1) => Pt.h_done)
 refine Pt.h_fork (fun (f209 : (205 : Int) ≤ a1) => ?_) (fun (f209 : ¬ (205 : Int) ≤ a1) => Pt.h_done)
 exact t57 a0 a1 l0 u0 l1 u1 f0 f3 f4 f209

theorem t55 (a0 a1 : Int) (l0 : (-9223372036854775808 : Int) ≤ a0) (u0 : a0 ≤ (9223372036854775807 : Int)) (l1 : (-9223372036854775808 : Int) ≤ a1) (u1 : a1 ≤ (9223372036854775807 : Int)) (f0 : ¬ a0 < (0 : Int)) (f3 : ¬ (600 : Int) < a1) (f4 : ¬ (0 : Int) < a0) (f181 : (177 : Int) ≤ a1) : R1015.holds [a0, a1] := by
 refine Pt.h_fork (fun (f182 : (178 : Int) ≤ a1) => ?_) (fun (f182 : ¬ (178 : Int) ≤ a1) => Pt.h_done)
 refine Pt.h_fork (fun (f183 : (179 : Int) ≤ a1) => ?_) (fun (f183 : ¬ (179 : Int) ≤ a1) => Pt.h_done)
 refine Pt.h_fork (fun (f184 : (180 : Int) ≤ a1) => ?_) (fun (f184 : ¬ (180 : Int) ≤ a1) => Pt.h_done)
 refine Pt.h_fork (fun (f185 : (181 : Int) ≤ a1) => ?_) (fun (f185 : ¬ (181 : Int) ≤ a1) => Pt.h_done)
 refine Pt.h_fork (fun (f186 : (182 : Int) ≤ a1) => ?_) (fun (f186 : ¬ (182 : Int) ≤ a1) => Pt.h_done)
 refine Pt.h_fork (fun (f187 : (183 : Int) ≤ a1) => ?_) (fun (f187 : ¬ (183 : Int) ≤ a1) => Pt.h_done)
 refine Pt.h_fork (fun (f188 : (184 : Int) ≤ a1) => ?_) (fun (f188 : ¬ (184 : Int) ≤ a1) => Pt.h_done)
 refine Pt.h_fork (fun (f189 : (185 : Int) ≤ a1) => ?_) (fun (f189 : ¬ (185 : Int) ≤ a1) => Pt.h_done)
 refine Pt.h_fork (fun (f190 : (186 : Int) ≤ a1) => ?_) (fun (f190 : ¬ (186 : Int) ≤ a1) => Pt.h_done)
 refine Pt.h_fork (fun (f191 : (187 : Int) ≤ a1) => ?_) (fun (f191 : ¬ (187 : Int) ≤ a1) => Pt.h_done)
 refine Pt.h_fork (fun (f192 : (188 : Int) ≤ a1) => ?_) (fun (f192 : ¬ (188 : Int) ≤ a1) => Pt.h_done)
 refine Pt.h_fork (fun (f193 : (189 : Int) ≤ a1) => ?_) (fun (f193 : ¬ (189 : Int) ≤ a1) => Pt.h_done)
 refine Pt.h_fork (fun (f194 : (190 : Int) ≤ a1) => ?_) (fun (f194 : ¬ (190 : Int) ≤ a1) => Pt.h_done)
 refine Pt.h_fork (fun (f195 : (191 : Int) ≤ a1) => ?_) (fun (f195 : ¬ (191 : Int) ≤ a1) => Pt.h_done)
 exact t56 a0 a1 l0 u0 l1 u1 f0 f3 f4 f195

theorem t54 (a0 a1 : Int) (l0 : (-9223372036854775808 : Int) ≤ a0) (u0 : a0 ≤ (9223372036854775807 : Int)) (l1 : (-9223372036854775808 : Int) ≤ a1) (u1 : a1 ≤ (9223372036854775807 : Int)) (f0 : ¬ a0 < (0 : Int)) (f3 : ¬ (600 : Int) < a1) (f4 : ¬ (0 : Int) < a0) (f167 : (163 : Int) ≤ a1) : R1029.holds [a0, a1] := by
 refine Pt.h_fork (fun (f168 : (164 : Int) ≤ a1) => ?_) (fun (f168 : ¬ (164 : Int) ≤ a1) => Pt.h_done)
 refine Pt.h_fork (fun (f169 : (165 : Int) ≤ a1) => ?_) (fun (f169 : ¬ (165 : Int) ≤ a1) => Pt.h_done)
 refine Pt.h_fork (fun (f170 : (166 : Int) ≤ a1) => ?_) (fun (f170 : ¬ (166 : Int) ≤ a1) => Pt.h_done)
 refine Pt.h_fork (fun (f171 : (167 : Int) ≤ a1) => ?_) (fun (f171 : ¬ (167 : Int) ≤ a1) => Pt.h_done)
 refine Pt.h_fork (fun (f172 : (168 : Int) ≤ a1) => ?_) (fun (f172 : ¬ (168 : Int) ≤ a1) => Pt.h_done)
 refine Pt.h_fork (fun (f173 : (169 : Int) ≤ a1) => ?_) (fun (f173 : ¬ (169 : Int) ≤ a1) => Pt.h_done)
 refine Pt.h_fork (fun (f174 : (170 : Int) ≤ a1) => ?_) (fun (f174 : ¬ (170 : Int) ≤ a1) => Pt.h_done)
 refine Pt.h_fork (fun (f175 : (171 : Int) ≤ a1) => ?_) (fun (f175 : ¬ (171 : Int) ≤ a1) => Pt.h_done)
 refine Pt.h_fork (fun (f176 : (172 : Int) ≤ a1) => ?_) (fun (f176 : ¬ (172 : Int) ≤ a1) => Pt.h_done)
 refine Pt.h_fork (fun (f177 : (173 : Int) ≤ a1) => ?_) (fun (f177 : ¬ (173 : Int) ≤ a1) => Pt.h_done)
 refine Pt.h_fork (fun (f178 : (174 : Int) ≤ a1) => ?_) (fun (f178 : ¬ (174 : Int) ≤ a1) => Pt.h_done)
 refine Pt.h_fork (fun (f179 : (175 : Int) ≤ a1) => ?_) (fun (f179 : ¬ (175 : Int) ≤ a1) => Pt.h_done)
 refine Pt.h_fork (fun (f180 : (176 : Int) ≤ a1) => ?_) (fun (f180 : ¬ (176 : Int) ≤ a1) => Pt.h_done)
 refine Pt.h_fork (fun (f181 : (177 : Int) ≤ a1) => ?_) (fun (f181 : ¬ (177 : Int) ≤ a1) => Pt.h_done)
 exact t55 a0 a1 l0 u0 l1 u1 f0 f3 f4 f181

theorem t53 (a0 a1 : Int) (l0 : (-9223372036854775808 : Int) ≤ a0) (u0 : a0 ≤ (9223372036854775807 : Int)) (l1 : (-9223372036854775808 : Int) ≤ a1) (u1 : a1 ≤ (9223372036854775807 : Int)) (f0 : ¬ a0 < (0 : Int)) (f3 : ¬ (600 : Int) < a1) (f4 : ¬ (0 : Int) < a0) (f153 : (149 : Int) ≤ a1) : R1043.holds [a0, a1] := by
 refine Pt.h_fork (fun (f154 : (150 : Int) ≤ a1) => ?_) (fun (f154 : ¬ (150 : Int) ≤ a1) => Pt.h_done)
 refine Pt.h_fork (fun (f155 : (151 : Int) ≤ a1) => ?_) (fun (f155 : ¬ (151 : Int) ≤ a1) => Pt.h_done)
 refine Pt.h_fork (fun (f156 : (152 : Int) ≤ a1) => ?_) (fun (f156 : ¬ (152 : Int) ≤ a1) => Pt.h_done)
 refine Pt.h_fork (fun (f157 : (153 : Int) ≤ a1) => ?_) (fun (f157 : ¬ (153 : Int) ≤ a1) => Pt.h_done)
 refine Pt.h_fork (fun (f158 : (154 : Int) ≤ a1) => ?_) (fun (f158 : ¬ (154 : Int) ≤ a1) => Pt.h_done)
 refine Pt.h_fork (fun (f159 : (155 : Int) ≤ a1) => ?_) (fun (f159 : ¬ (155 : Int) ≤ a1) => Pt.h_done)
 refine Pt.h_fork (fun (f160 : (156 : Int) ≤ a1) => ?_) (fun (f160 : ¬ (156 : Int) ≤ a1) => Pt.h_done)
 refine Pt.h_fork (fun (f161 : (157 : Int) ≤ a1) => ?_) (fun (f161 : ¬ (157 : Int) ≤ a1) => Pt.h_done)
 refine Pt.h_fork (fun (f162 : (158 : Int) ≤ a1) => ?_) (fun (f162 : ¬ (158 : Int) ≤ a1) => Pt.h_done)
 refine Pt.h_fork (fun (f163 : (159 : Int) ≤ a1) => ?_) (fun (f163 : ¬ (159 : Int) ≤ a1) => Pt.h_done)
 refine Pt.h_fork (fun (f164 : (160 : Int) ≤ a1) => ?_) (fun (f164 : ¬ (160 : Int) ≤ a1) => Pt.h_done)
 refine Pt.h_fork (fun (f165 : (161 : Int) ≤ a1) => ?_) (fun (f165 : ¬ (161 : Int) ≤ a1) => Pt.h_done)
 refine Pt.h_fork (fun (f166 : (162 : Int) ≤ a1) => ?_) (fun (f166 : ¬ (162 : Int) ≤ a1) => Pt.h_done)
 refine Pt.h_fork (fun (f167 : (163 : Int) ≤ a1) => ?_) (fun (f167 : ¬ (163 : Int) ≤ a1) => Pt.h_done)
 exact t54 a0 a1 l0 u0 l1 u1 f0 f3 f4 f167

theorem t52 (a0 a1 : Int) (l0 : (-9223372036854775808 : Int) ≤ a0) (u0 : a0 ≤ (9223372036854775807 : Int)) (l1 : (-9223372036854775808 : Int) ≤ a1) (u1 : a1 ≤ (9223372036854775807 : Int)) (f0 : ¬ a0 < (0 : Int)) (f3 : ¬ (600 : Int) < a1) (f4 : ¬ (0 : Int) < a0) (f139 : (135 : Int) ≤ a1) : R1057.holds [a0, a1] := by
 refine Pt.h_fork (fun (f140 : (136 : Int) ≤ a1) => ?_) (fun (f140 : ¬ (136 : Int) ≤ a1) => Pt.h_done)
 refine Pt.h_fork (fun (f141 : (137 : Int) ≤ a1) => ?_) (fun (f141 : ¬ (137 : Int) ≤ a1) => Pt.h_done)
 refine Pt.h_fork (fun (f142 : (138 : Int) ≤ a1) => ?_) (fun (f142 : ¬ (138 : Int) ≤ a1) => Pt.h_done)
 refine Pt.h_fork (fun (f143 : (139 : Int) ≤ a1) => ?_) (fun (f143 : ¬ (139 : Int) ≤ a1) => Pt.h_done)
 refine Pt.h_fork (fun (f144 : (140 : Int) ≤ a1) => ?_) (fun (f144 : ¬ (140 : Int) ≤ a1) => Pt.h_done)
 refine Pt.h_fork (fun (f145 : (141 : Int) ≤ a1) => ?_) (fun (f145 : ¬ (141 : Int) ≤ a1) => Pt.h_done)
 refine Pt.h_fork (fun (f146 : (142 : Int) ≤ a1) => ?_) (fun (f146 : ¬ (142 : Int) ≤ a1) => Pt.h_done)
 refine Pt.h_fork (fun (f147 : (143 : Int) ≤ a1) => ?_) (fun (f147 : ¬ (143 : Int) ≤ a1) => Pt.h_done)
 refine Pt.h_fork (fun (f148 : (144 : Int) ≤ a1) => ?_) (fun (f148 : ¬ (144 : Int) ≤ a1) => Pt.h_done)
 refine Pt.h_fork (fun (f149 : (145 : Int) ≤ a1) => ?_) (fun (f149 : ¬ (145 : Int) ≤ a1) => Pt.h_done)
 refine Pt.h_fork (fun (f150 : (146 : Int) ≤ a1) => ?_) (fun (f150 : ¬ (146 : Int) ≤ a1) => Pt.h_done)
 refine Pt.h_fork (fun (f151 : (147 : Int) ≤ a1) => ?_) (fun (f151 : ¬ (147 : Int) ≤ a1) => Pt.h_done)
 refine Pt.h_fork (fun (f152 : (148 : Int) ≤ a1) => ?_) (fun (f152 : ¬ (148 : Int) ≤ a1) => Pt.h_done)
 refine Pt.h_fork (fun (f153 : (149 : Int) ≤ a1) => ?_) (fun (f153 : ¬ (149 : Int) ≤ a1) => Pt.h_done)
 exact t53 a0 a1 l0 u0 l1 u1 f0 f3 f4 f153

theorem t51 (a0 a1 : Int) (l0 : (-9223372036854775808 : Int) ≤ a0) (u0 : a0 ≤ (9223372036854775807 : Int)) (l1 : (-9223372036854775808 : Int) ≤ a1) (u1 : a1 ≤ (9223372036854775807 : Int)) (f0 : ¬ a0 < (0 : Int)) (f3 : ¬ (600 : Int) < a1) (f4 : ¬ (0 : Int) < a0) (f125 : (121 : Int) ≤ a1) : R1071.holds [a0, a1] := by
 refine Pt.h_fork (fun (f126 : (122 : Int) ≤ a1) => ?_) (fun (f126 : ¬ (122 : Int) ≤ a1) => Pt.h_done)
 refine Pt.h_fork (fun (f127 : (123 : Int) ≤ a1) => ?_) (fun (f127 : ¬ (123 : Int) ≤ a1) => Pt.h_done)
 refine Pt.h_fork (fun (f128 : (124 : Int) ≤ a1) => ?_) (fun (f128 : ¬ (124 : Int) ≤ a1) => Pt.h_done)
 refine Pt.h_fork (fun (f129 : (125 : Int) ≤ a1) => ?_) (fun (f129 : ¬ (125 : Int) ≤ a1) => Pt.h_done)
 refine Pt.h_fork (fun (f130 : (126 : Int) ≤ a1) => ?_) (fun (f130 : ¬ (126 : Int) ≤ a1) => Pt.h_done)
 refine Pt.h_fork (fun (f131 : (127 : Int) ≤ a1) => ?_) (fun (f131 : ¬ (127 : Int) ≤ a1) => Pt.h_done)
 refine Pt.h_fork (fun (f132 : (128 : Int) ≤ a1) => ?_) (fun (f132 : ¬ (128 : Int) ≤ a1) => Pt.h_done)
 refine Pt.h_fork (fun (f133 : (129 : Int) ≤ a1) => ?_) (fun (f133 : ¬ (129 : Int) ≤ a1) => Pt.h_done)
 refine Pt.h_fork (fun (f134 : (130 : Int) ≤ a1) => ?_) (fun (f134 : ¬ (130 : Int) ≤ a1) => Pt.h_done)
 refine Pt.h_fork (fun (f135 : (131 : Int) ≤ a1) => ?_) (fun (f135 : ¬ (131 : Int) ≤ a1) => Pt.h_done)
 refine Pt.h_fork (fun (f136 : (132 : Int) ≤ a1) => ?_) (fun (f136 : ¬ (132 : Int) ≤ a1) => Pt.h_done)
 refine Pt.h_fork (fun (f137 : (133 : Int) ≤ a1) => ?_) (fun (f137 : ¬ (133 : Int) ≤ a1) => Pt.h_done)
 refine Pt.h_fork (fun (f138 : (134 : Int) ≤ a1) => ?_) (fun (f138 : ¬ (134 : Int) ≤ a1) => Pt.h_done)
 refine Pt.h_fork (fun (f139 : (135 : Int) ≤ a1) => ?_) (fun (f139 : ¬ (135 : Int) ≤ a1) => Pt.h_done)
 exact t52 a0 a1 l0 u0 l1 u1 f0 f3 f4 f139

theorem t50 (a0 a1 : Int) (l0 : (-9223372036854775808 : Int) ≤ a0) (u0 : a0 ≤ (9223372036854775807 : Int)) (l1 : (-9223372036854775808 : Int) ≤ a1) (u1 : a1 ≤ (9223372036854775807 : Int)) (f0 : ¬ a0 < (0 : Int)) (f3 : ¬ (600 : Int) < a1) (f4 : ¬ (0 : Int) < a0) (f111 : (107 : Int) ≤ a1) : R1085.holds [a0, a1] := by
 refine Pt.h_fork (fun (f112 : (108 : Int) ≤ a1) => ?_) (fun (f112 : ¬ (108 : Int) ≤ a1) => Pt.h_done)
 refine Pt.h_fork (fun (f113 : (109 : Int) ≤ a1) => ?_) (fun (f113 : ¬ (109 : Int) ≤ a1) => Pt.h_done)
 refine Pt.h_fork (fun (f114 : (110 : Int) ≤ a1) => ?_) (fun (f114 : ¬ (110 : Int) ≤ a1) => Pt.h_done)
 refine Pt.h_fork (fun (f115 : (111 : Int) ≤ a1) => ?_) (fun (f115 : ¬ (111 : Int) ≤ a1) => Pt.h_done)
 refine Pt.h_fork (fun (f116 : (112 : Int) ≤ a1) => ?_) (fun (f116 : ¬ (112 : Int) ≤ a1) => Pt.h_done)
 refine Pt.h_fork (fun (f117 : (113 : Int) ≤ a1) => ?_) (fun (f117 : ¬ (113 : Int) ≤ a1) => Pt.h_done)
 refine Pt.h_fork (fun (f118 : (114 : Int) ≤ a1) => ?_) (fun (f118 : ¬ (114 : Int) ≤ a1) => Pt.h_done)
 refine Pt.h_fork (fun (f119 : (115 : Int) ≤ a1) => ?_) (fun (f119 : ¬ (115 : Int) ≤ a1) => Pt.h_done)
 refine Pt.h_fork (fun (f120 : (116 : Int) ≤ a1) => ?_) (fun (f120 : ¬ (116 : Int) ≤ a1) => Pt.h_done)
 refine Pt.h_fork (fun (f121 : (117 : Int) ≤ a1) => ?_) (fun (f121 : ¬ (117 : Int) ≤ a1) => Pt.h_done)
 refine Pt.h_fork (fun (f122 : (118 : Int) ≤ a1) => ?_) (fun (f122 : ¬ (118 : Int) ≤ a1) => Pt.h_done)
 refine Pt.h_fork (fun (f123 : (119 : Int) ≤ a1) => ?_) (fun (f123 : ¬ (119 : Int) ≤ a1) => Pt.h_done)
 refine Pt.h_fork (fun (f124 : (120 : Int) ≤ a1) => ?_) (fun (f124 : ¬ (120 : Int) ≤ a1) => Pt.h_done)
 refine Pt.h_fork (fun (f125 : (121 : Int) ≤ a1) => ?_) (fun (f125 : ¬ (121 : Int) ≤ a1) => Pt.h_done)
 exact t51 a0 a1 l0 u0 l1 u1 f0 f3 f4 f125

theorem t49 (a0 a1 : Int) (l0 : (-9223372036854775808 : Int) ≤ a0) (u0 : a0 ≤ (9223372036854775807 : Int)) (l1 : (-9223372036854775808 : Int) ≤ a1) (u1 : a1 ≤ (9223372036854775807 : Int)) (f0 : ¬ a0 < (0 : Int)) (f3 : ¬ (600 : Int) < a1) (f4 : ¬ (0 : Int) < a0) (f97 : (93 : Int) ≤ a1) : R1099.holds [a0, a1] := by
 refine Pt.h_fork (fun (f98 : (94 : Int) ≤ a1) => ?_) (fun (f98 : ¬ (94 : Int) ≤ a1) => Pt.h_done)
 refine Pt.h_fork (fun (f99 : (95 : Int) ≤ a1) => ?_) (fun (f99 : ¬ (95 : Int) ≤ a1) => Pt.h_done)
 refine Pt.h_fork (fun (f100 : (96 : Int) ≤ a1) => ?_) (fun (f100 : ¬ (96 : Int) ≤ a1) => Pt.h_done)
 refine Pt.h_fork (fun (f101 : (97 : Int) ≤ a1) => ?_) (fun (f101 : ¬ (97 : Int) ≤ a1) => Pt.h_done)
 refine Pt.h_fork (fun (f102 : (98 : Int) ≤ a1) => ?_) (fun (f102 : ¬ (98 : Int) ≤ a1) => Pt.h_done)
 refine Pt.h_fork (fun (f103 : (99 : Int) ≤ a1) => ?_) (fun (f103 : ¬ (99 : Int) ≤ a1) => Pt.h_done)
 refine Pt.h_fork (fun (f104 : (100 : Int) ≤ a1) => ?_) (fun (f104 : ¬ (100 : Int) ≤ a1) => Pt.h_done)
 refine Pt.h_fork (fun (f105 : (101 : Int) ≤ a1) => ?_) (fun (f105 : ¬ (101 : Int) ≤ a1) => Pt.h_done)
 refine Pt.h_fork (fun (f106 : (102 : Int) ≤ a1) => ?_) (fun (f106 : ¬ (102 : Int) ≤ a1) => Pt.h_done)
 refine Pt.h_fork (fun (f107 : (103 : Int) ≤ a1) => ?_) (fun (f107 : ¬ (103 : Int) ≤ a1) => Pt.h_done)
 refine Pt.h_fork (fun (f108 : (104 : Int) ≤ a1) => ?_) (fun (f108 : ¬ (104 : Int) ≤ a1) => Pt.h_done)
 refine Pt.h_fork (fun (f109 : (105 : Int) ≤ a1) => ?_) (fun (f109 : ¬ (105 : Int) ≤ a1) => Pt.h_done)
 refine Pt.h_fork (fun (f110 : (106 : Int) ≤ a1) => ?_) (fun (f110 : ¬ (106 : Int) ≤ a1) => Pt.h_done)
 refine Pt.h_fork (fun (f111 : (107 : Int) ≤ a1) => ?_) (fun (f111 : ¬ (107 : Int) ≤ a1) => Pt.h_done)
 exact t50 a0 a1 l0 u0 l1 u1 f0 f3 f4 f111

theorem t48 (a0 a1 : Int) (l0 : (-9223372036854775808 : Int) ≤ a0) (u0 : a0 ≤ (9223372036854775807 : Int)) (l1 : (-9223372036854775808 : Int) ≤ a1) (u1 : a1 ≤ (9223372036854775807 : Int)) (f0 : ¬ a0 < (0 : Int)) (f3 : ¬ (600 : Int) < a1) (f4 : ¬ (0 : Int) < a0) (f83 : (79 : Int) ≤ a1) : R1113.holds [a0, a1] := by
 refine Pt.h_fork (fun (f84 : (80 : Int) ≤ a1) => ?_) (fun (f84 : ¬ (80 : Int) ≤ a1) => Pt.h_done)
 refine Pt.h_fork (fun (f85 : (81 : Int) ≤ a1) => ?_) (fun (f85 : ¬ (81 : Int) ≤ a1) => Pt.h_done)
 refine Pt.h_fork (fun (f86 : (82 : Int) ≤ a1) => ?_) (fun (f86 : ¬ (82 : Int) ≤ a1) => Pt.h_done)
 refine Pt.h_fork (fun (f87 : (83 : Int) ≤ a1) => ?_) (fun (f87 : ¬ (83 : Int) ≤ a1) => Pt.h_done)
 refine Pt.h_fork (fun (f88 : (84 : Int) ≤ a1) => ?_) (fun (f88 : ¬ (84 : Int) ≤ a1) => Pt.h_done)
 refine Pt.h_fork (fun (f89 : (85 : Int) ≤ a1) => ?_) (fun (f89 : ¬ (85 : Int) ≤ a1) => Pt.h_done)
 refine Pt.h_fork (fun (f90 : (86 : Int) ≤ a1) => ?_) (fun (f90 : ¬ (86 : Int) ≤ a1) => Pt.h_done)
 refine Pt.h_fork (fun (f91 : (87 : Int) ≤ a1) => ?_) (fun (f91 : ¬ (87 : Int) ≤ a1) => Pt.h_done)
 refine Pt.h_fork (fun (f92 : (88 : Int) ≤ a1) => ?_) (fun (f92 : ¬ (88 : Int) ≤ a1) => Pt.h_done)
 refine Pt.h_fork (fun (f93 : (89 : Int) ≤ a1) => ?_) (fun (f93 : ¬ (89 : Int) ≤ a1) => Pt.h_done)
 refine Pt.h_fork (fun (f94 : (90 : Int) ≤ a1) => ?_) (fun (f94 : ¬ (90 : Int) ≤ a1) => Pt.h_done)
 refine Pt.h_fork (fun (f95 : (91 : Int) ≤ a1) => ?_) (fun (f95 : ¬ (91 : Int) ≤ a1) => Pt.h_done)
 refine Pt.h_fork (fun (f96 : (92 : Int) ≤ a1) => ?_) (fun (f96 : ¬ (92 : Int) ≤ a1) => Pt.h_done)
 refine Pt.h_fork (fun (f97 : (93 : Int) ≤ a1) => ?_) (fun (f97 : ¬ (93 : Int) ≤ a1) => Pt.h_done)
 exact t49 a0 a1 l0 u0 l1 u1 f0 f3 f4 f97

theorem t47 (a0 a1 : Int) (l0 : (-9223372036854775808 : Int) ≤ a0) (u0 : a0 ≤ (9223372036854775807 : Int)) (l1 : (-9223372036854775808 : Int) ≤ a1) (u1 : a1 ≤ (9223372036854775807 : Int)) (f0 : ¬ a0 < (0 : Int)) (f3 : ¬ (600 : Int) < a1) (f4 : ¬ (0 : Int) < a0) (f69 : (65 : Int) ≤ a1) : R1127.holds [a0, a1] := by
 refine Pt.h_fork (fun (f70 : (66 : Int) ≤ a1) => ?_) (fun (f70 : ¬ (66 : Int) ≤ a1) => Pt.h_done)
 refine Pt.h_fork (fun (f71 : (67 : Int) ≤ a1) => ?_) (fun (f71 : ¬ (67 : Int) ≤ a1) => Pt.h_done)
 refine Pt.h_fork (fun (f72 : (68 : Int) ≤ a1) => ?_) (fun (f72 : ¬ (68 : Int) ≤ a1) => Pt.h_done)
 refine Pt.h_fork (fun (f73 : (69 : Int) ≤ a1) => ?_) (fun (f73 : ¬ (69 : Int) ≤ a1) => Pt.h_done)
 refine Pt.h_fork (fun (f74 : (70 : Int) ≤ a1) => ?_) (fun (f74 : ¬ (70 : Int) ≤ a1) => Pt.h_done)
 refine Pt.h_fork (fun (f75 : (71 : Int) ≤ a1) => ?_) (fun (f75 : ¬ (71 : Int) ≤ a1) => Pt.h_done)
 refine Pt.h_fork (fun (f76 : (72 : Int) ≤ a1) => ?_) (fun (f76 : ¬ (72 : Int) ≤ a1) => Pt.h_done)
 refine Pt.h_fork (fun (f77 : (73 : Int) ≤ a1) => ?_) (fun (f77 : ¬ (73 : Int) ≤ a1) => Pt.h_done)
 refine Pt.h_fork (fun (f78 : (74 : Int) ≤ a1) => ?_) (fun (f78 : ¬ (74 : Int) ≤ a1) => Pt.h_done)
 refine Pt.h_fork (fun (f79 : (75 : Int) ≤ a1) => ?_) (fun (f79 : ¬ (75 : Int) ≤ a1) => Pt.h_done)
 refine Pt.h_fork (fun (f80 : (76 : Int) ≤ a1) => ?_) (fun (f80 : ¬ (76 : Int) ≤ a1) => Pt.h_done)
 refine Pt.h_fork (fun (f81 : (77 : Int) ≤ a1) => ?_) (fun (f81 : ¬ (77 : Int) ≤ a1) => Pt.h_done)
 refine Pt.h_fork (fun (f82 : (78 : Int) ≤ a1) => ?_) (fun (f82 : ¬ (78 : Int) ≤ a1) => Pt.h_done)
 refine Pt.h_fork (fun (f83 : (79 : Int) ≤ a1) => ?_) (fun (f83 : ¬ (79 : Int) ≤ a1) => Pt.h_done)
 exact t48 a0 a1 l0 u0 l1 u1 f0 f3 f4 f83

theorem t46 (a0 a1 : Int) (l0 : (-9223372036854775808 : Int) ≤ a0) (u0 : a0 ≤ (9223372036854775807 : Int)) (l1 : (-9223372036854775808 : Int) ≤ a1) (u1 : a1 ≤ (9223372036854775807 : Int)) (f0 : ¬ a0 < (0 : Int)) (f3 : ¬ (600 : Int) < a1) (f4 : ¬ (0 : Int) < a0) (f55 : (51 : Int) ≤ a1) : R1141.holds [a0, a1] := by
 refine Pt.h_fork (fun (f56 : (52 : Int) ≤ a1) => ?_) (fun (f56 : ¬ (52 : Int) ≤ a1) => Pt.h_done)
 refine Pt.h_fork (fun (f57 : (53 : Int) ≤ a1) => ?_) (fun (f57 : ¬ (53 : Int) ≤ a1) => Pt.h_done)
 refine Pt.h_fork (fun (f58 : (54 : Int) ≤ a1) => ?_) (fun (f58 : ¬ (54 : Int) ≤ a1) => Pt.h_done)
 refine Pt.h_fork (fun (f59 : (55 : Int) ≤ a1) => ?_) (fun (f59 : ¬ (55 : Int) ≤ a1) => Pt.h_done)
 refine Pt.h_fork (fun (f60 : (56 : Int) ≤ a1) => ?_) (fun (f60 : ¬ (56 : Int) ≤ a1) => Pt.h_done)
 refine Pt.h_fork (fun (f61 : (57 : Int) ≤ a1) => ?_) (fun (f61 : ¬ (57 : Int) ≤ a1) => Pt.h_done)
 refine Pt.h_fork (fun (f62 : (58 : Int) ≤ a1) => ?_) (fun (f62 : ¬ (58 : Int) ≤ a1) => Pt.h_done)
 refine Pt.h_fork (fun (f63 : (59 : Int) ≤ a1) => ?_) (fun (f63 : ¬ (59 : Int) ≤ a1) => Pt.h_done)
 refine Pt.h_fork (fun (f64 : (60 : Int) ≤ a1) => ?_) (fun (f64 : ¬ (60 : Int) ≤ a1) => Pt.h_done)
 refine Pt.h_fork (fun (f65 : (61 : Int) ≤ a1) => ?_) (fun (f65 : ¬ (61 : Int) ≤ a1) => Pt.h_done)
 refine Pt.h_fork (fun (f66 : (62 : Int) ≤ a1) => ?_) (fun (f66 : ¬ (62 : Int) ≤ a1) => Pt.h_done)
 refine Pt.h_fork (fun (f67 : (63 : Int) ≤ a1) => ?_) (fun (f67 : ¬ (63 : Int) ≤ a1) => Pt.h_done)
 refine Pt.h_fork (fun (f68 : (64 : Int) ≤ a1) => ?_) (fun (f68 : ¬ (64 : Int) ≤ a1) => Pt.h_done)
 refine Pt.h_fork (fun (f69 : (65 : Int) ≤ a1) => ?_) (fun (f69 : ¬ (65 : Int) ≤ a1) => Pt.h_done)
 exact t47 a0 a1 l0 u0 l1 u1 f0 f3 f4 f69

theorem t45 (a0 a1 : Int) (l0 : (-9223372036854775808 : Int) ≤ a0) (u0 : a0 ≤ (9223372036854775807 : Int)) (l1 : (-9223372036854775808 : Int) ≤ a1) (u1 : a1 ≤ (9223372036854775807 : Int)) (f0 : ¬ a0 < (0 : Int)) (f3 : ¬ (600 : Int) < a1) (f4 : ¬ (0 : Int) < a0) (f41 : (37 : Int) ≤ a1) : R1155.holds [a0, a1] := by
 refine Pt.h_fork (fun (f42 : (38 : Int) ≤ a1) => ?_) (fun (f42 : ¬ (38 : Int) ≤ a1) => Pt.h_done)
 refine Pt.h_fork (fun (f43 : (39 : Int) ≤ a1) => ?_) (fun (f43 : ¬ (39 : Int) ≤ a1) => Pt.h_done)
 refine Pt.h_fork (fun (f44 : (40 : Int) ≤ a1) => ?_) (fun (f44 : ¬ (40 : Int) ≤ a1) => Pt.h_done)
 refine Pt.h_fork (fun (f45 : (41 : Int) ≤ a1) => ?_) (fun (f45 : ¬ (41 : Int) ≤ a1) => Pt.h_done)
 refine Pt.h_fork (fun (f46 : (42 : Int) ≤ a1) => ?_) (fun (f46 : ¬ (42 : Int) ≤ a1) => Pt.h_done)
 refine Pt.h_fork (fun (f47 : (43 : Int) ≤ a1) => ?_) (fun (f47 : ¬ (43 : Int) ≤ a1) => Pt.h_done)
 refine Pt.h_fork (fun (f48 : (44 : Int) ≤ a1) => ?_) (fun (f48 : ¬ (44 : Int) ≤ a1) => Pt.h_done)
 refine Pt.h_fork (fun (f49 : (45 : Int) ≤ a1) => ?_) (fun (f49 : ¬ (45 : Int) ≤ a1) => Pt.h_done)
 refine Pt.h_fork (fun (f50 : (46 : Int) ≤ a1) => ?_) (fun (f50 : ¬ (46 : Int) ≤ a1) => Pt.h_done)
 refine Pt.h_fork (fun (f51 : (47 : Int) ≤ a1) => ?_) (fun (f51 : ¬ (47 : Int) ≤ a1) => Pt.h_done)
 refine Pt.h_fork (fun (f52 : (48 : Int) ≤ a1) => ?_) (fun (f52 : ¬ (48 : Int) ≤ a1) => Pt.h_done)
 refine Pt.h_fork (fun (f53 : (49 : Int) ≤ a1) => ?_) (fun (f53 : ¬ (49 : Int) ≤ a1) => Pt.h_done)
 refine Pt.h_fork (fun (f54 : (50 : Int) ≤ a1) => ?_) (fun (f54 : ¬ (50 : Int) ≤ a1) => Pt.h_done)
 refine Pt.h_fork (fun (f55 : (51 : Int) ≤ a1) => ?_) (fun (f55 : ¬ (51 : Int) ≤ a1) => Pt.h_done)
 exact t46 a0 a1 l0 u0 l1 u1 f0 f3 f4 f55

theorem t44 (a0 a1 : Int) (l0 : (-9223372036854775808 : Int) ≤ a0) (u0 : a0 ≤ (9223372036854775807 : Int)) (l1 : (-9223372036854775808 : Int) ≤ a1) (u1 : a1 ≤ (9223372036854775807 : Int)) (f0 : ¬ a0 < (0 : Int)) (f3 : ¬ (600 : Int) < a1) (f4 : ¬ (0 : Int) < a0) (f27 : (23 : Int) ≤ a1) : R1169.holds [a0, a1] := by
 refine Pt.h_fork (fun (f28 : (24 : Int) ≤ a1) => ?_) (fun (f28 : ¬ (24 : Int) ≤ a1) => Pt.h_done)
 refine Pt.h_fork (fun (f29 : (25 : Int) ≤ a1) => ?_) (fun (f29 : ¬ (25 : Int) ≤ a1) => Pt.h_done)
 refine Pt.h_fork (fun (f30 : (26 : Int) ≤ a1) => ?_) (fun (f30 : ¬ (26 : Int) ≤ a1) => Pt.h_done)
 refine Pt.h_fork (fun (f31 : (27 : Int) ≤ a1) => ?_) (fun (f31 : ¬ (27 : Int) ≤ a1) => Pt.h_done)
 refine Pt.h_fork (fun (f32 : (28 : Int) ≤ a1) => ?_) (fun (f32 : ¬ (28 : Int) ≤ a1) => Pt.h_done)
 refine Pt.h_fork (fun (f33 : (29 : Int) ≤ a1) => ?_) (fun (f33 : ¬ (29 : Int) ≤ a1) => Pt.h_done)
 refine Pt.h_fork (fun (f34 : (30 : Int) ≤ a1) => ?_) (fun (f34 : ¬ (30 : Int) ≤ a1) => Pt.h_done)
 refine Pt.h_fork (fun (f35 : (31 : Int) ≤ a1) => ?_) (fun (f35 : ¬ (31 : Int) ≤ a1) => Pt.h_done)
 refine Pt.h_fork (fun (f36 : (32 : Int) ≤ a1) => ?_) (fun (f36 : ¬ (32 : Int) ≤ a1) => Pt.h_done)
 refine Pt.h_fork (fun (f37 : (33 : Int) ≤ a1) => ?_) (fun (f37 : ¬ (33 : Int) ≤ a1) => Pt.h_done)
 refine Pt.h_fork (fun (f38 : (34 : Int) ≤ a1) => ?_) (fun (f38 : ¬ (34 : Int) ≤ a1) => Pt.h_done)
 refine Pt.h_fork (fun (f39 : (35 : Int) ≤ a1) => ?_) (fun (f39 : ¬ (35 : Int) ≤ a1) => Pt.h_done)
 refine Pt.h_fork (fun (f40 : (36 : Int) ≤ a1) => ?_) (fun (f40 : ¬ (36 : Int) ≤ a1) => Pt.h_done)
 refine Pt.h_fork (fun (f41 : (37 : Int) ≤ a1) => ?_) (fun (f41 : ¬ (37 : Int) ≤ a1) => Pt.h_done)
 exact t45 a0 a1 l0 u0 l1 u1 f0 f3 f4 f41

theorem t43 (a0 a1 : Int) (l0 : (-9223372036854775808 : Int) ≤ a0) (u0 : a0 ≤ (9223372036854775807 : Int)) (l1 : (-9223372036854775808 : Int) ≤ a1) (u1 : a1 ≤ (9223372036854775807 : Int)) (f0 : ¬ a0 < (0 : Int)) (f3 : ¬ (600 : Int) < a1) (f4 : ¬ (0 : Int) < a0) (f13 : (9 : Int) ≤ a1) : R1183.holds [a0, a1] := by
 refine Pt.h_fork (fun (f14 : (10 : Int) ≤ a1) => ?_) (fun (f14 : ¬ (10 : Int) ≤ a1) => Pt.h_done)
 refine Pt.h_fork (fun (f15 : (11 : Int) ≤ a1) => ?_) (fun (f15 : ¬ (11 : Int) ≤ a1) => Pt.h_done)
 refine Pt.h_fork (fun (f16 : (12 : Int) ≤ a1) => ?_) (fun (f16 : ¬ (12 : Int) ≤ a1) => Pt.h_done)
 refine Pt.h_fork (fun (f17 : (13 : Int) ≤ a1) => ?_) (fun (f17 : ¬ (13 : Int) ≤ a1) => Pt.h_done)
 refine Pt.h_fork (fun (f18 : (14 : Int) ≤ a1) => ?_) (fun (f18 : ¬ (14 : Int) ≤ a1) => Pt.h_done)
 refine Pt.h_fork (fun (f19 : (15 : Int) ≤ a1) => ?_) (fun (f19 : ¬ (15 : Int) ≤ a1) => Pt.h_done)
 refine Pt.h_fork (fun (f20 : (16 : Int) ≤ a1) => ?_) (fun (f20 : ¬ (16 : Int) ≤ a1) => Pt.h_done)
 refine Pt.h_fork (fun (f21 : (17 : Int) ≤ a1) => ?_) (fun (f21 : ¬ (17 : Int) ≤ a1) => Pt.h_done)
 refine Pt.h_fork (fun (f22 : (18 : Int) ≤ a1) => ?_) (fun (f22 : ¬ (18 : Int) ≤ a1) => Pt.h_done)
 refine Pt.h_fork (fun (f23 : (19 : Int) ≤ a1) => ?_) (fun (f23 : ¬ (19 : Int) ≤ a1) => Pt.h_done)
 refine Pt.h_fork (fun (f24 : (20 : Int) ≤ a1) => ?_) (fun (f24 : ¬ (20 : Int) ≤ a1) => Pt.h_done)
 refine Pt.h_fork (fun (f25 : (21 : Int) ≤ a1) => ?_) (fun (f25 : ¬ (21 : Int) ≤ a1) => Pt.h_done)
 refine Pt.h_fork (fun (f26 : (22 : Int) ≤ a1) => ?_) (fun (f26 : ¬ (22 : Int) ≤ a1) => Pt.h_done)
 refine Pt.h_fork (fun (f27 : (23 : Int) ≤ a1) => ?_) (fun (f27 : ¬ (23 : Int) ≤ a1) => Pt.h_done)
 exact t44 a0 a1 l0 u0 l1 u1 f0 f3 f4 f27

theorem t0 (a0 a1 : Int) (l0 : (-9223372036854775808 : Int) ≤ a0) (u0 : a0 ≤ (9223372036854775807 : Int)) (l1 : (-9223372036854775808 : Int) ≤ a1) (u1 : a1 ≤ (9223372036854775807 : Int)) : R1197.holds [a0, a1] := by
 refine Pt.h_fork (fun (f0 : a0 < (0 : Int)) => Pt.h_done) (fun (f0 : ¬ a0 < (0 : Int)) => ?_)
 refine Pt.h_fork (fun (f1 : (549755813888 : Int) < a0) => Pt.h_done) (fun (f1 : ¬ (549755813888 : Int) < a0) => ?_)
 refine Pt.h_fork (fun (f2 : a1 < (0 : Int)) => Pt.h_done) (fun (f2 : ¬ a1 < (0 : Int)) => ?_)
 refine Pt.h_fork (fun (f3 : (600 : Int) < a1) => Pt.h_done) (fun (f3 : ¬ (600 : Int) < a1) => ?_)
 refine Pt.h_fork (fun (f4 : (0 : Int) < a0) => ?_) (fun (f4 : ¬ (0 : Int) < a0) => ?_)
 ·obtain ⟨z2, e2⟩ : ∃ z : Int, z = (a0) % 4294967296 := ⟨_, rfl⟩
  refine Pt.h_new (v_wr rfl  ((wrap_u32 _).trans (o0 a0 z2 l0 u0 f1 f4 e2))) (show _ = [a0, a1, z2] from rfl) ?_
  obtain ⟨z3, e3⟩ : ∃ z : Int, z = z2 / 16777216 := ⟨_, rfl⟩
  refine Pt.h_new (v_shr 24 16777216 rfl rfl (by decide) (by decide) ((o1 a0 z2 z3 l0 u0 f1 f4 e2 e3))) (show _ = [a0, a1, z2, z3] from rfl) ?_
  refine Pt.h_is (v_wr rfl  ((wrap_u8 _).trans (o2 a0 z2 z3 l0 u0 f1 f4 e2 e3))) ?_
  obtain ⟨z4, e4⟩ : ∃ z : Int, z = z2 / 65536 := ⟨_, rfl⟩
  refine Pt.h_new (v_shr 16 65536 rfl rfl (by decide) (by decide) ((o3 a0 z2 z3 z4 l0 u0 f1 f4 e2 e3 e4))) (show _ = [a0, a1, z2, z3, z4] from rfl) ?_
  obtain ⟨z5, e5⟩ : ∃ z : Int, z = (z4) % 256 := ⟨_, rfl⟩
  refine Pt.h_new (v_wr rfl  ((wrap_u8 _).trans (o4 a0 z2 z3 z4 z5 l0 u0 f1 f4 e2 e3 e4 e5))) (show _ = [a0, a1, z2, z3, z4, z5] from rfl) ?_
  obtain ⟨z6, e6⟩ : ∃ z : Int, z = z2 / 256 := ⟨_, rfl⟩
  refine Pt.h_new (v_shr 8 256 rfl rfl (by decide) (by decide) ((o5 a0 z2 z3 z4 z5 z6 l0 u0 f1 f4 e2 e3 e4 e5 e6))) (show _ = [a0, a1, z2, z3, z4, z5, z6] from rfl) ?_
  obtain ⟨z7, e7⟩ : ∃ z : Int, z = (z6) % 256 := ⟨_, rfl⟩
  refine Pt.h_new (v_wr rfl  ((wrap_u8 _).trans (o6 a0 z2 z3 z4 z5 z6 z7 l0 u0 f1 f4 e2 e3 e4 e5 e6 e7))) (show _ = [a0, a1, z2, z3, z4, z5, z6, z7] from rfl) ?_
  obtain ⟨z8, e8⟩ : ∃ z : Int, z = (z2) % 256 := ⟨_, rfl⟩
  refine Pt.h_new (v_wr rfl  ((wrap_u8 _).trans (o7 a0 z2 z3 z4 z5 z6 z7 z8 l0 u0 f1 f4 e2 e3 e4 e5 e6 e7 e8))) (show _ = [a0, a1, z2, z3, z4, z5, z6, z7, z8] from rfl) ?_
  refine Pt.h_fork (fun (f5 : (1 : Int) ≤ a1) => ?_) (fun (f5 : ¬ (1 : Int) ≤ a1) => Pt.h_done)
  obtain ⟨z9, e9⟩ : ∃ z : Int, z = ((a0 + (1 : Int))) % 4294967296 := ⟨_, rfl⟩
  refine Pt.h_new (v_wr rfl  ((wrap_u32 _).trans (o8 a0 z2 z3 z4 z5 z6 z7 z8 z9 l0 u0 f1 f4 e2 e3 e4 e5 e6 e7 e8 e9))) (show _ = [a0, a1, z2, z3, z4, z5, z6, z7, z8, z9] from rfl) ?_
  obtain ⟨z10, e10⟩ : ∃ z : Int, z = z9 / 16777216 := ⟨_, rfl⟩
  refine Pt.h_new (v_shr 24 16777216 rfl rfl (by decide) (by decide) ((o9 a0 z2 z3 z4 z5 z6 z7 z8 z9 z10 l0 u0 f1 f4 e2 e3 e4 e5 e6 e7 e8 e9 e10))) (show _ = [a0, a1, z2, z3, z4, z5, z6, z7, z8, z9, z10] from rfl) ?_
  refine Pt.h_is (v_wr rfl  ((wrap_u8 _).trans (o10 a0 z2 z3 z4 z5 z6 z7 z8 z9 z10 l0 u0 f1 f4 e2 e3 e4 e5 e6 e7 e8 e9 e10))) ?_
  obtain ⟨z11, e11⟩ : ∃ z : Int, z = z9 / 65536 := ⟨_, rfl⟩
  refine Pt.h_new (v_shr 16 65536 rfl rfl (by decide) (by decide) ((o11 a0 z2 z3 z4 z5 z6 z7 z8 z9 z10 z11 l0 u0 f1 f4 e2 e3 e4 e5 e6 e7 e8 e9 e10 e11))) (show _ = [a0, a1, z2, z3, z4, z5, z6, z7, z8, z9, z10, z11] from rfl) ?_
  obtain ⟨z12, e12⟩ : ∃ z : Int, z = (z11) % 256 := ⟨_, rfl⟩
  refine Pt.h_new (v_wr rfl  ((wrap_u8 _).trans (o12 a0 z2 z3 z4 z5 z6 z7 z8 z9 z10 z11 z12 l0 u0 f1 f4 e2 e3 e4 e5 e6 e7 e8 e9 e10 e11 e12))) (show _ = [a0, a1, z2, z3, z4, z5, z6, z7, z8, z9, z10, z11, z12] from rfl) ?_
  obtain ⟨z13, e13⟩ : ∃ z : Int, z = z9 / 256 := ⟨_, rfl⟩
  refine Pt.h_new (v_shr 8 256 rfl rfl (by decide) (by decide) ((o13 a0 z2 z3 z4 z5 z6 z7 z8 z9 z10 z11 z12 z13 l0 u0 f1 f4 e2 e3 e4 e5 e6 e7 e8 e9 e10 e11 e12 e13))) (show _ = [a0, a1, z2, z3, z4, z5, z6, z7, z8, z9, z10, z11, z12, z13] from rfl) ?_
  obtain ⟨z14, e14⟩ : ∃ z : Int, z = (z13) % 256 := ⟨_, rfl⟩
  refine Pt.h_new (v_wr rfl  ((wrap_u8 _).trans (o14 a0 z2 z3 z4 z5 z6 z7 z8 z9 z10 z11 z12 z13 z14 l0 u0 f1 f4 e2 e3 e4 e5 e6 e7 e8 e9 e10 e11 e12 e13 e14))) (show _ = [a0, a1, z2, z3, z4, z5, z6, z7, z8, z9, z10, z11, z12, z13, z14] from rfl) ?_
  obtain ⟨z15, e15⟩ : ∃ z : Int, z = (z9) % 256 := ⟨_, rfl⟩
  refine Pt.h_new (v_wr rfl  ((wrap_u8 _).trans (o15 a0 z2 z3 z4 z5 z6 z7 z8 z9 z10 z11 z12 z13 z14 z15 l0 u0 f1 f4 e2 e3 e4 e5 e6 e7 e8 e9 e10 e11 e12 e13 e14 e15))) (show _ = [a0, a1, z2, z3, z4, z5, z6, z7, z8, z9, z10, z11, z12, z13, z14, z15] from rfl) ?_
  refine Pt.h_fork (fun (f6 : (2 : Int) ≤ a1) => ?_) (fun (f6 : ¬ (2 : Int) ≤ a1) => Pt.h_done)
  refine Pt.h_fork (fun (f7 : (3 : Int) ≤ a1) => ?_) (fun (f7 : ¬ (3 : Int) ≤ a1) => Pt.h_done)
  obtain ⟨z16, e16⟩ : ∃ z : Int, z = ((a0 + (3 : Int))) % 4294967296 := ⟨_, rfl⟩
  refine Pt.h_new (v_wr rfl  ((wrap_u32 _).trans (o16 a0 z2 z3 z4 z5 z6 z7 z8 z9 z10 z11 z12 z13 z14 z15 z16 l0 u0 f1 f4 e2 e3 e4 e5 e6 e7 e8 e9 e10 e11 e12 e13 e14 e15 e16))) (show _ = [a0, a1, z2, z3, z4, z5, z6, z7, z8, z9, z10, z11, z12, z13, z14, z15, z16] from rfl) ?_
  obtain ⟨z17, e17⟩ : ∃ z : Int, z = z16 / 16777216 := ⟨_, rfl⟩
  refine Pt.h_new (v_shr 24 16777216 rfl rfl (by decide) (by decide) ((o17 a0 z2 z3 z4 z5 z6 z7 z8 z9 z10 z11 z12 z13 z14 z15 z16 z17 l0 u0 f1 f4 e2 e3 e4 e5 e6 e7 e8 e9 e10 e11 e12 e13 e14 e15 e16 e17))) (show _ = [a0, a1, z2, z3, z4, z5, z6, z7, z8, z9, z10, z11, z12, z13, z14, z15, z16, z17] from rfl) ?_
  refine Pt.h_is (v_wr rfl  ((wrap_u8 _).trans (o18 a0 z2 z3 z4 z5 z6 z7 z8 z9 z10 z11 z12 z13 z14 z15 z16 z17 l0 u0 f1 f4 e2 e3 e4 e5 e6 e7 e8 e9 e10 e11 e12 e13 e14 e15 e16 e17))) ?_
  obtain ⟨z18, e18⟩ : ∃ z : Int, z = z16 / 65536 := ⟨_, rfl⟩
  refine Pt.h_new (v_shr 16 65536 rfl rfl (by decide) (by decide) ((o19 a0 z2 z3 z4 z5 z6 z7 z8 z9 z10 z11 z12 z13 z14 z15 z16 z17 z18 l0 u0 f1 f4 e2 e3 e4 e5 e6 e7 e8 e9 e10 e11 e12 e13 e14 e15 e16 e17 e18))) (show _ = [a0, a1, z2, z3, z4, z5, z6, z7, z8, z9, z10, z11, z12, z13, z14, z15, z16, z17, z18] from rfl) ?_
  obtain ⟨z19, e19⟩ : ∃ z : Int, z = (z18) % 256 := ⟨_, rfl⟩
  refine Pt.h_new (v_wr rfl  ((wrap_u8 _).trans (o20 a0 z2 z3 z4 z5 z6 z7 z8 z9 z10 z11 z12 z13 z14 z15 z16 z17 z18 z19 l0 u0 f1 f4 e2 e3 e4 e5 e6 e7 e8 e9 e10 e11 e12 e13 e14 e15 e16 e17 e18 e19))) (show _ = [a0, a1, z2, z3, z4, z5, z6, z7, z8, z9, z10, z11, z12, z13, z14, z15, z16, z17, z18, z19] from rfl) ?_
  obtain ⟨z20, e20⟩ : ∃ z : Int, z = z16 / 256 := ⟨_, rfl⟩
  refine Pt.h_new (v_shr 8 256 rfl rfl (by decide) (by decide) ((o21 a0 z2 z3 z4 z5 z6 z7 z8 z9 z10 z11 z12 z13 z14 z15 z16 z17 z18 z19 z20 l0 u0 f1 f4 e2 e3 e4 e5 e6 e7 e8 e9 e10 e11 e12 e13 e14 e15 e16 e17 e18 e19 e20))) (show _ = [a0, a1, z2, z3, z4, z5, z6, z7, z8, z9, z10, z11, z12, z13, z14, z15, z16, z17, z18, z19, z20] from rfl) ?_
  obtain ⟨z21, e21⟩ : ∃ z : Int, z = (z20) % 256 := ⟨_, rfl⟩
  refine Pt.h_new (v_wr rfl  ((wrap_u8 _).trans (o22 a0 z2 z3 z4 z5 z6 z7 z8 z9 z10 z11 z12 z13 z14 z15 z16 z17 z18 z19 z20 z21 l0 u0 f1 f4 e2 e3 e4 e5 e6 e7 e8 e9 e10 e11 e12 e13 e14 e15 e16 e17 e18 e19 e20 e21))) (show _ = [a0, a1, z2, z3, z4, z5, z6, z7, z8, z9, z10, z11, z12, z13, z14, z15, z16, z17, z18, z19, z20, z21] from rfl) ?_
  obtain ⟨z22, e22⟩ : ∃ z : Int, z = (z16) % 256 := ⟨_, rfl⟩
  refine Pt.h_new (v_wr rfl  ((wrap_u8 _).trans (o23 a0 z2 z3 z4 z5 z6 z7 z8 z9 z10 z11 z12 z13 z14 z15 z16 z17 z18 z19 z20 z21 z22 l0 u0 f1 f4 e2 e3 e4 e5 e6 e7 e8 e9 e10 e11 e12 e13 e14 e15 e16 e17 e18 e19 e20 e21 e22))) (show _ = [a0, a1, z2, z3, z4, z5, z6, z7, z8, z9, z10, z11, z12, z13, z14, z15, z16, z17, z18, z19, z20, z21, z22] from rfl) ?_
  refine Pt.h_fork (fun (f8 : (4 : Int) ≤ a1) => ?_) (fun (f8 : ¬ (4 : Int) ≤ a1) => Pt.h_done)
  refine Pt.h_fork (fun (f9 : (5 : Int) ≤ a1) => ?_) (fun (f9 : ¬ (5 : Int) ≤ a1) => Pt.h_done)
  refine Pt.h_fork (fun (f10 : (6 : Int) ≤ a1) => ?_) (fun (f10 : ¬ (6 : Int) ≤ a1) => Pt.h_done)
  refine Pt.h_fork (fun (f11 : (7 : Int) ≤ a1) => ?_) (fun (f11 : ¬ (7 : Int) ≤ a1) => Pt.h_done)
  obtain ⟨z23, e23⟩ : ∃ z : Int, z = ((a0 + (7 : Int))) % 4294967296 := ⟨_, rfl⟩
  refine Pt.h_new (v_wr rfl  ((wrap_u32 _).trans (o24 a0 z2 z3 z4 z5 z6 z7 z8 z9 z10 z11 z12 z13 z14 z15 z16 z17 z18 z19 z20 z21 z22 z23 l0 u0 f1 f4 e2 e3 e4 e5 e6 e7 e8 e9 e10 e11 e12 e13 e14 e15 e16 e17 e18 e19 e20 e21 e22 e23))) (show _ = [a0, a1, z2, z3, z4, z5, z6, z7, z8, z9, z10, z11, z12, z13, z14, z15, z16, z17, z18, z19, z20, z21, z22, z23] from rfl) ?_
  obtain ⟨z24, e24⟩ : ∃ z : Int, z = z23 / 16777216 := ⟨_, rfl⟩
  refine Pt.h_new (v_shr 24 16777216 rfl rfl (by decide) (by decide) ((o25 a0 z2 z3 z4 z5 z6 z7 z8 z9 z10 z11 z12 z13 z14 z15 z16 z17 z18 z19 z20 z21 z22 z23 z24 l0 u0 f1 f4 e2 e3 e4 e5 e6 e7 e8 e9 e10 e11 e12 e13 e14 e15 e16 e17 e18 e19 e20 e21 e22 e23 e24))) (show _ = [a0, a1, z2, z3, z4, z5, z6, z7, z8, z9, z10, z11, z12, z13, z14, z15, z16, z17, z18, z19, z20, z21, z22, z23, z24] from rfl) ?_
  refine Pt.h_is (v_wr rfl  ((wrap_u8 _).trans (o26 a0 z2 z3 z4 z5 z6 z7 z8 z9 z10 z11 z12 z13 z14 z15 z16 z17 z18 z19 z20 z21 z22 z23 z24 l0 u0 f1 f4 e2 e3 e4 e5 e6 e7 e8 e9 e10 e11 e12 e13 e14 e15 e16 e17 e18 e19 e20 e21 e22 e23 e24))) ?_
  obtain ⟨z25, e25⟩ : ∃ z : Int, z = z23 / 65536 := ⟨_, rfl⟩
  refine Pt.h_new (v_shr 16 65536 rfl rfl (by decide) (by decide) ((o27 a0 z2 z3 z4 z5 z6 z7 z8 z9 z10 z11 z12 z13 z14 z15 z16 z17 z18 z19 z20 z21 z22 z23 z24 z25 l0 u0 f1 f4 e2 e3 e4 e5 e6 e7 e8 e9 e10 e11 e12 e13 e14 e15 e16 e17 e18 e19 e20 e21 e22 e23 e24 e25))) (show _ = [a0, a1, z2, z3, z4, z5, z6, z7, z8, z9, z10, z11, z12, z13, z14, z15, z16, z17, z18, z19, z20, z21, z22, z23, z24, z25] from rfl) ?_
  obtain ⟨z26, e26⟩ : ∃ z : Int, z = (z25) % 256 := ⟨_, rfl⟩
  refine Pt.h_new (v_wr rfl  ((wrap_u8 _).trans (o28 a0 z2 z3 z4 z5 z6 z7 z8 z9 z10 z11 z12 z13 z14 z15 z16 z17 z18 z19 z20 z21 z22 z23 z24 z25 z26 l0 u0 f1 f4 e2 e3 e4 e5 e6 e7 e8 e9 e10 e11 e12 e13 e14 e15 e16 e17 e18 e19 e20 e21 e22 e23 e24 e25 e26))) (show _ = [a0, a1, z2, z3, z4, z5, z6, z7, z8, z9, z10, z11, z12, z13, z14, z15, z16, z17, z18, z19, z20, z21, z22, z23, z24, z25, z26] from rfl) ?_
  obtain ⟨z27, e27⟩ : ∃ z : Int, z = z23 / 256 := ⟨_, rfl⟩
  refine Pt.h_new (v_shr 8 256 rfl rfl (by decide) (by decide) ((o29 a0 z2 z3 z4 z5 z6 z7 z8 z9 z10 z11 z12 z13 z14 z15 z16 z17 z18 z19 z20 z21 z22 z23 z24 z25 z26 z27 l0 u0 f1 f4 e2 e3 e4 e5 e6 e7 e8 e9 e10 e11 e12 e13 e14 e15 e16 e17 e18 e19 e20 e21 e22 e23 e24 e25 e26 e27))) (show _ = [a0, a1, z2, z3, z4, z5, z6, z7, z8, z9, z10, z11, z12, z13, z14, z15, z16, z17, z18, z19, z20, z21, z22, z23, z24, z25, z26, z27] from rfl) ?_
  obtain ⟨z28, e28⟩ : ∃ z : Int, z = (z27) % 256 := ⟨_, rfl⟩
  refine Pt.h_new (v_wr rfl  ((wrap_u8 _).trans (o30 a0 z2 z3 z4 z5 z6 z7 z8 z9 z10 z11 z12 z13 z14 z15 z16 z17 z18 z19 z20 z21 z22 z23 z24 z25 z26 z27 z28 l0 u0 f1 f4 e2 e3 e4 e5 e6 e7 e8 e9 e10 e11 e12 e13 e14 e15 e16 e17 e18 e19 e20 e21 e22 e23 e24 e25 e26 e27 e28))) (show _ = [a0, a1, z2, z3, z4, z5, z6, z7, z8, z9, z10, z11, z12, z13, z14, z15, z16, z17, z18, z19, z20, z21, z22, z23, z24, z25, z26, z27, z28] from rfl) ?_
  obtain ⟨z29, e29⟩ : ∃ z : Int, z = (z23) % 256 := ⟨_, rfl⟩
  refine Pt.h_new (v_wr rfl  ((wrap_u8 _).trans (o31 a0 z2 z3 z4 z5 z6 z7 z8 z9 z10 z11 z12 z13 z14 z15 z16 z17 z18 z19 z20 z21 z22 z23 z24 z25 z26 z27 z28 z29 l0 u0 f1 f4 e2 e3 e4 e5 e6 e7 e8 e9 e10 e11 e12 e13 e14 e15 e16 e17 e18 e19 e20 e21 e22 e23 e24 e25 e26 e27 e28 e29))) (show _ = [a0, a1, z2, z3, z4, z5, z6, z7, z8, z9, z10, z11, z12, z13, z14, z15, z16, z17, z18, z19, z20, z21, z22, z23, z24, z25, z26, z27, z28, z29] from rfl) ?_
  refine Pt.h_fork (fun (f12 : (8 : Int) ≤ a1) => ?_) (fun (f12 : ¬ (8 : Int) ≤ a1) => Pt.h_done)
  refine Pt.h_fork (fun (f13 : (9 : Int) ≤ a1) => ?_) (fun (f13 : ¬ (9 : Int) ≤ a1) => Pt.h_done)
  exact t1 a0 a1 z2 z3 z4 z5 z6 z7 z8 z9 z10 z11 z12 z13 z14 z15 z16 z17 z18 z19 z20 z21 z22 z23 z24 z25 z26 z27 z28 z29 l0 u0 l1 u1 f1 f3 f4 e2 e3 e4 e5 e6 e7 e8 e9 e10 e11 e12 e13 e14 e15 e16 e17 e18 e19 e20 e21 e22 e23 e24 e25 e26 e27 e28 e29 f13
 ·refine Pt.h_fork (fun (f5 : (1 : Int) ≤ a1) => ?_) (fun (f5 : ¬ (1 : Int) ≤ a1) => Pt.h_done)
  refine Pt.h_fork (fun (f6 : (2 : Int) ≤ a1) => ?_) (fun (f6 : ¬ (2 : Int) ≤ a1) => Pt.h_done)
  refine Pt.h_fork (fun (f7 : (3 : Int) ≤ a1) => ?_) (fun (f7 : ¬ (3 : Int) ≤ a1) => Pt.h_done)
  refine Pt.h_fork (fun (f8 : (4 : Int) ≤ a1) => ?_) (fun (f8 : ¬ (4 : Int) ≤ a1) => Pt.h_done)
  refine Pt.h_fork (fun (f9 : (5 : Int) ≤ a1) => ?_) (fun (f9 : ¬ (5 : Int) ≤ a1) => Pt.h_done)
  refine Pt.h_fork (fun (f10 : (6 : Int) ≤ a1) => ?_) (fun (f10 : ¬ (6 : Int) ≤ a1) => Pt.h_done)
  refine Pt.h_fork (fun (f11 : (7 : Int) ≤ a1) => ?_) (fun (f11 : ¬ (7 : Int) ≤ a1) => Pt.h_done)
  refine Pt.h_fork (fun (f12 : (8 : Int) ≤ a1) => ?_) (fun (f12 : ¬ (8 : Int) ≤ a1) => Pt.h_done)
  refine Pt.h_fork (fun (f13 : (9 : Int) ≤ a1) => ?_) (fun (f13 : ¬ (9 : Int) ≤ a1) => Pt.h_done)
  exact t43 a0 a1 l0 u0 l1 u1 f0 f3 f4 f13

theorem rest : auto T1202 [(-9223372036854775808, 9223372036854775807), (-9223372036854775808, 9223372036854775807)] = R1197 := by kernel_rfl
theorem all (a0 a1 : Int) (l0 : (-9223372036854775808 : Int) ≤ a0) (u0 : a0 ≤ (9223372036854775807 : Int)) (l1 : (-9223372036854775808 : Int) ≤ a1) (u1 : a1 ≤ (9223372036854775807 : Int)) : T1202.holds [a0, a1] :=
 holds_auto rest (fits_cons l0 u0 (fits_cons l1 u1 fits_nil)) (t0 a0 a1 l0 u0 l1 u1)

end Go.Proofs.Ytfkbofbdonmpfaa.pmpTells
