/- The table of the ready bodies. -/
import Derived.Test.YtpegimipbigmbaaGreatDoorM8
import Derived.Test.YtpegimipbigmbaaGreatDoorBa0
set_option linter.unusedSimpArgs false
set_option linter.unusedVariables false
set_option linter.unusedSectionVars false
set_option linter.unnecessarySimpa false
set_option maxRecDepth 100000
namespace Go.Proofs.YtpegimipbigmbaaGreatDoor.Bodies
open Go.Am
theorem xc : xClean (mkX Tryz.prog) = true := by kernel_rfl
theorem ok0 : okAll Tryz.prog [16, 17, 18, 19, 29, 39, 40, 41, 56, 76, 77, 83, 87, 89, 93, 98, 111, 112, 113, 114, 123, 155, 157, 169, 180, 188, 190, 191, 192, 193, 194, 200, 204, 205, 206, 224, 225, 227, 229, 230] = true := by kernel_rfl
theorem ok1 : okAll Tryz.prog [231, 232, 233, 235, 236, 258, 280, 287, 292, 293, 294, 303, 304, 305, 324, 325, 326, 328, 330, 406, 407, 408, 409, 445, 446, 455, 503, 515, 516, 521, 523, 541, 566, 568, 569, 573] = true := by kernel_rfl
abbrev FO (f : FuncId) (W : X → CT → List V → H → M (V × H)) := FastOk Tryz.prog 100000 f W
theorem fo {l : List Nat} {f : FuncId} {fn : Func} {W : X → CT → List V → H → M (V × H)} {F : X → CT → FE → H → Sy → R} (ok : okAll Tryz.prog l = true) (hf : Tryz.prog.funcs[f]? = some fn) (hm : (l.any (Nat.beq f)) = true) (hb : fn.body = some (bdy fn)) (hF : ∀ x call, CE pr0 x I call (bdy fn) (finG pr0 I fn.results.toList) = F x call) (hW : ∀ x call args h s, Go.Am.Good (W x call args h s) (F x call (argF args) h s)) : FO f W := fast_of hf (okAll_mem ok hf hm) hb hF hW
theorem K16 : FO 16 W16 := fo ok0 Tryz.func16 (by kernel_rfl) (by kernel_rfl) (T16 pr0) fun _ _ _ _ _ => wr2_good
theorem K17 : FO 17 W17 := fo ok0 Tryz.func17 (by kernel_rfl) (by kernel_rfl) (T17 pr0) fun _ _ _ _ _ => wr2_good
theorem K18 : FO 18 W18 := fo ok0 Tryz.func18 (by kernel_rfl) (by kernel_rfl) (T18 pr0) fun _ _ _ _ _ => wr1_good
theorem K19 : FO 19 W19 := fo ok0 Tryz.func19 (by kernel_rfl) (by kernel_rfl) (T19 pr0) fun _ _ _ _ _ => wr1_good
theorem K29 : FO 29 W29 := fo ok0 Tryz.func29 (by kernel_rfl) (by kernel_rfl) (T29 pr0) fun _ _ _ _ _ => wr1_good
theorem K39 : FO 39 W39 := fo ok0 Tryz.func39 (by kernel_rfl) (by kernel_rfl) (T39 pr0) fun _ _ _ _ _ => wr1_good
theorem K40 : FO 40 W40 := fo ok0 Tryz.func40 (by kernel_rfl) (by kernel_rfl) (T40 pr0) fun _ _ _ _ _ => wr2_good
theorem K41 : FO 41 W41 := fo ok0 Tryz.func41 (by kernel_rfl) (by kernel_rfl) (T41 pr0) fun _ _ _ _ _ => wr2_good
theorem K56 : FO 56 W56 := fo ok0 Tryz.func56 (by kernel_rfl) (by kernel_rfl) (T56 pr0) fun _ _ _ _ _ => wr1_good
theorem K76 : FO 76 W76 := fo ok0 Tryz.func76 (by kernel_rfl) (by kernel_rfl) (T76 pr0) fun _ _ _ _ _ => wr5_good
theorem K77 : FO 77 W77 := fo ok0 Tryz.func77 (by kernel_rfl) (by kernel_rfl) (T77 pr0) fun _ _ _ _ _ => wr1_good
theorem K83 : FO 83 W83 := fo ok0 Tryz.func83 (by kernel_rfl) (by kernel_rfl) (T83 pr0) fun _ _ _ _ _ => wr2_good
theorem K87 : FO 87 W87 := fo ok0 Tryz.func87 (by kernel_rfl) (by kernel_rfl) (T87 pr0) fun _ _ _ _ _ => wr1_good
theorem K89 : FO 89 W89 := fo ok0 Tryz.func89 (by kernel_rfl) (by kernel_rfl) (T89 pr0) fun _ _ _ _ _ => wr1_good
theorem K93 : FO 93 W93 := fo ok0 Tryz.func93 (by kernel_rfl) (by kernel_rfl) (T93 pr0) fun _ _ _ _ _ => wr3_good
theorem K98 : FO 98 W98 := fo ok0 Tryz.func98 (by kernel_rfl) (by kernel_rfl) (T98 pr0) fun _ _ _ _ _ => wr1_good
theorem K111 : FO 111 W111 := fo ok0 Tryz.func111 (by kernel_rfl) (by kernel_rfl) (T111 pr0) fun _ _ _ _ _ => wr1_good
theorem K112 : FO 112 W112 := fo ok0 Tryz.func112 (by kernel_rfl) (by kernel_rfl) (T112 pr0) fun _ _ _ _ _ => wr1_good
theorem K113 : FO 113 W113 := fo ok0 Tryz.func113 (by kernel_rfl) (by kernel_rfl) (T113 pr0) fun _ _ _ _ _ => wr1_good
theorem K114 : FO 114 W114 := fo ok0 Tryz.func114 (by kernel_rfl) (by kernel_rfl) (T114 pr0) fun _ _ _ _ _ => wr2_good
theorem K123 : FO 123 W123 := fo ok0 Tryz.func123 (by kernel_rfl) (by kernel_rfl) (T123 pr0) fun _ _ _ _ _ => wr5_good
theorem K155 : FO 155 W155 := fo ok0 Tryz.func155 (by kernel_rfl) (by kernel_rfl) (T155 pr0) fun _ _ _ _ _ => wr1_good
theorem K157 : FO 157 W157 := fo ok0 Tryz.func157 (by kernel_rfl) (by kernel_rfl) (T157 pr0) fun _ _ _ _ _ => wr3_good
theorem K169 : FO 169 W169 := fo ok0 Tryz.func169 (by kernel_rfl) (by kernel_rfl) (T169 pr0) fun _ _ _ _ _ => wr2_good
theorem K180 : FO 180 W180 := fo ok0 Tryz.func180 (by kernel_rfl) (by kernel_rfl) (T180 pr0) fun _ _ _ _ _ => wr2_good
theorem K188 : FO 188 W188 := fo ok0 Tryz.func188 (by kernel_rfl) (by kernel_rfl) (T188 pr0) fun _ _ _ _ _ => wr2_good
theorem K190 : FO 190 W190 := fo ok0 Tryz.func190 (by kernel_rfl) (by kernel_rfl) (T190 pr0) fun _ _ _ _ _ => wr1_good
theorem K191 : FO 191 W191 := fo ok0 Tryz.func191 (by kernel_rfl) (by kernel_rfl) (T191 pr0) fun _ _ _ _ _ => wr1_good
theorem K192 : FO 192 W192 := fo ok0 Tryz.func192 (by kernel_rfl) (by kernel_rfl) (T192 pr0) fun _ _ _ _ _ => wr1_good
theorem K193 : FO 193 W193 := fo ok0 Tryz.func193 (by kernel_rfl) (by kernel_rfl) (T193 pr0) fun _ _ _ _ _ => wr2_good
theorem K194 : FO 194 W194 := fo ok0 Tryz.func194 (by kernel_rfl) (by kernel_rfl) (T194 pr0) fun _ _ _ _ _ => wr1_good
theorem K200 : FO 200 W200 := fo ok0 Tryz.func200 (by kernel_rfl) (by kernel_rfl) (T200 pr0) fun _ _ _ _ _ => wr1_good
theorem K204 : FO 204 W204 := fo ok0 Tryz.func204 (by kernel_rfl) (by kernel_rfl) (T204 pr0) fun _ _ _ _ _ => wr1_good
theorem K205 : FO 205 W205 := fo ok0 Tryz.func205 (by kernel_rfl) (by kernel_rfl) (T205 pr0) fun _ _ _ _ _ => wr2_good
theorem K206 : FO 206 W206 := fo ok0 Tryz.func206 (by kernel_rfl) (by kernel_rfl) (T206 pr0) fun _ _ _ _ _ => wr2_good
theorem K224 : FO 224 W224 := fo ok0 Tryz.func224 (by kernel_rfl) (by kernel_rfl) (T224 pr0) fun _ _ _ _ _ => wr1_good
theorem K225 : FO 225 W225 := fo ok0 Tryz.func225 (by kernel_rfl) (by kernel_rfl) (T225 pr0) fun _ _ _ _ _ => wr1_good
theorem K227 : FO 227 W227 := fo ok0 Tryz.func227 (by kernel_rfl) (by kernel_rfl) (T227 pr0) fun _ _ _ _ _ => wr2_good
theorem K229 : FO 229 W229 := fo ok0 Tryz.func229 (by kernel_rfl) (by kernel_rfl) (T229 pr0) fun _ _ _ _ _ => wr2_good
theorem K230 : FO 230 W230 := fo ok0 Tryz.func230 (by kernel_rfl) (by kernel_rfl) (T230 pr0) fun _ _ _ _ _ => wr1_good
theorem K231 : FO 231 W231 := fo ok1 Tryz.func231 (by kernel_rfl) (by kernel_rfl) (T231 pr0) fun _ _ _ _ _ => wr1_good
theorem K232 : FO 232 W232 := fo ok1 Tryz.func232 (by kernel_rfl) (by kernel_rfl) (T232 pr0) fun _ _ _ _ _ => wr2_good
theorem K233 : FO 233 W233 := fo ok1 Tryz.func233 (by kernel_rfl) (by kernel_rfl) (T233 pr0) fun _ _ _ _ _ => wr2_good
theorem K235 : FO 235 W235 := fo ok1 Tryz.func235 (by kernel_rfl) (by kernel_rfl) (T235 pr0) fun _ _ _ _ _ => wr2_good
theorem K236 : FO 236 W236 := fo ok1 Tryz.func236 (by kernel_rfl) (by kernel_rfl) (T236 pr0) fun _ _ _ _ _ => wr1_good
theorem K258 : FO 258 W258 := fo ok1 Tryz.func258 (by kernel_rfl) (by kernel_rfl) (T258 pr0) fun _ _ _ _ _ => wr1_good
theorem K280 : FO 280 W280 := fo ok1 Tryz.func280 (by kernel_rfl) (by kernel_rfl) (T280 pr0) fun _ _ _ _ _ => wr2_good
theorem K287 : FO 287 W287 := fo ok1 Tryz.func287 (by kernel_rfl) (by kernel_rfl) (T287 pr0) fun _ _ _ _ _ => wr2_good
theorem K292 : FO 292 W292 := fo ok1 Tryz.func292 (by kernel_rfl) (by kernel_rfl) (T292 pr0) fun _ _ _ _ _ => wr1_good
theorem K293 : FO 293 W293 := fo ok1 Tryz.func293 (by kernel_rfl) (by kernel_rfl) (T293 pr0) fun _ _ _ _ _ => wr1_good
theorem K294 : FO 294 W294 := fo ok1 Tryz.func294 (by kernel_rfl) (by kernel_rfl) (T294 pr0) fun _ _ _ _ _ => wr1_good
theorem K303 : FO 303 W303 := fo ok1 Tryz.func303 (by kernel_rfl) (by kernel_rfl) (T303 pr0) fun _ _ _ _ _ => wr1_good
theorem K304 : FO 304 W304 := fo ok1 Tryz.func304 (by kernel_rfl) (by kernel_rfl) (T304 pr0) fun _ _ _ _ _ => wr1_good
theorem K305 : FO 305 W305 := fo ok1 Tryz.func305 (by kernel_rfl) (by kernel_rfl) (T305 pr0) fun _ _ _ _ _ => wr3_good
theorem K324 : FO 324 W324 := fo ok1 Tryz.func324 (by kernel_rfl) (by kernel_rfl) (T324 pr0) fun _ _ _ _ _ => wr2_good
theorem K325 : FO 325 W325 := fo ok1 Tryz.func325 (by kernel_rfl) (by kernel_rfl) (T325 pr0) fun _ _ _ _ _ => wr2_good
theorem K326 : FO 326 W326 := fo ok1 Tryz.func326 (by kernel_rfl) (by kernel_rfl) (T326 pr0) fun _ _ _ _ _ => wr1_good
theorem K328 : FO 328 W328 := fo ok1 Tryz.func328 (by kernel_rfl) (by kernel_rfl) (T328 pr0) fun _ _ _ _ _ => wr2_good
theorem K330 : FO 330 W330 := fo ok1 Tryz.func330 (by kernel_rfl) (by kernel_rfl) (T330 pr0) fun _ _ _ _ _ => wr1_good
theorem K406 : FO 406 W406 := fo ok1 Tryz.func406 (by kernel_rfl) (by kernel_rfl) (T406 pr0) fun _ _ _ _ _ => wr2_good
theorem K407 : FO 407 W407 := fo ok1 Tryz.func407 (by kernel_rfl) (by kernel_rfl) (T407 pr0) fun _ _ _ _ _ => wr2_good
theorem K408 : FO 408 W408 := fo ok1 Tryz.func408 (by kernel_rfl) (by kernel_rfl) (T408 pr0) fun _ _ _ _ _ => wr2_good
theorem K409 : FO 409 W409 := fo ok1 Tryz.func409 (by kernel_rfl) (by kernel_rfl) (T409 pr0) fun _ _ _ _ _ => wr2_good
theorem K445 : FO 445 W445 := fo ok1 Tryz.func445 (by kernel_rfl) (by kernel_rfl) (T445 pr0) fun _ _ _ _ _ => wr1_good
theorem K446 : FO 446 W446 := fo ok1 Tryz.func446 (by kernel_rfl) (by kernel_rfl) (T446 pr0) fun _ _ _ _ _ => wr2_good
theorem K455 : FO 455 W455 := fo ok1 Tryz.func455 (by kernel_rfl) (by kernel_rfl) (T455 pr0) fun _ _ _ _ _ => wr1_good
theorem K503 : FO 503 W503 := fo ok1 Tryz.func503 (by kernel_rfl) (by kernel_rfl) (T503 pr0) fun _ _ _ _ _ => wr2_good
theorem K515 : FO 515 W515 := fo ok1 Tryz.func515 (by kernel_rfl) (by kernel_rfl) (T515 pr0) fun _ _ _ _ _ => wr2_good
theorem K516 : FO 516 W516 := fo ok1 Tryz.func516 (by kernel_rfl) (by kernel_rfl) (T516 pr0) fun _ _ _ _ _ => wr2_good
theorem K521 : FO 521 W521 := fo ok1 Tryz.func521 (by kernel_rfl) (by kernel_rfl) (T521 pr0) fun _ _ _ _ _ => wr2_good
theorem K523 : FO 523 W523 := fo ok1 Tryz.func523 (by kernel_rfl) (by kernel_rfl) (T523 pr0) fun _ _ _ _ _ => wr2_good
theorem K541 : FO 541 W541 := fo ok1 Tryz.func541 (by kernel_rfl) (by kernel_rfl) (T541 pr0) fun _ _ _ _ _ => wr2_good
theorem K566 : FO 566 W566 := fo ok1 Tryz.func566 (by kernel_rfl) (by kernel_rfl) (T566 pr0) fun _ _ _ _ _ => wr2_good
theorem K568 : FO 568 W568 := fo ok1 Tryz.func568 (by kernel_rfl) (by kernel_rfl) (T568 pr0) fun _ _ _ _ _ => wr2_good
theorem K569 : FO 569 W569 := fo ok1 Tryz.func569 (by kernel_rfl) (by kernel_rfl) (T569 pr0) fun _ _ _ _ _ => wr3_good
theorem K573 : FO 573 W573 := fo ok1 Tryz.func573 (by kernel_rfl) (by kernel_rfl) (T573 pr0) fun _ _ _ _ _ => wr2_good
noncomputable def tab0 : Tab := (T.put (T.put (T.put (T.put (T.put (T.put (T.put (T.put (T.put (T.put (T.put (T.put (T.put (T.put (T.put (T.put (T.put (T.put (T.put (T.put (T.put (T.put (T.put (T.put (T.put (T.put (T.put (T.put (T.put (T.put (T.put (T.put (T.put (T.put (T.put (T.put (T.put (T.put (T.put (T.put .l 16 (some W16)) 17 (some W17)) 18 (some W18)) 19 (some W19)) 29 (some W29)) 39 (some W39)) 40 (some W40)) 41 (some W41)) 56 (some W56)) 76 (some W76)) 77 (some W77)) 83 (some W83)) 87 (some W87)) 89 (some W89)) 93 (some W93)) 98 (some W98)) 111 (some W111)) 112 (some W112)) 113 (some W113)) 114 (some W114)) 123 (some W123)) 155 (some W155)) 157 (some W157)) 169 (some W169)) 180 (some W180)) 188 (some W188)) 190 (some W190)) 191 (some W191)) 192 (some W192)) 193 (some W193)) 194 (some W194)) 200 (some W200)) 204 (some W204)) 205 (some W205)) 206 (some W206)) 224 (some W224)) 225 (some W225)) 227 (some W227)) 229 (some W229)) 230 (some W230))
theorem tabOk0 : TabOk Tryz.prog 100000 tab0 := (tab_put (tab_put (tab_put (tab_put (tab_put (tab_put (tab_put (tab_put (tab_put (tab_put (tab_put (tab_put (tab_put (tab_put (tab_put (tab_put (tab_put (tab_put (tab_put (tab_put (tab_put (tab_put (tab_put (tab_put (tab_put (tab_put (tab_put (tab_put (tab_put (tab_put (tab_put (tab_put (tab_put (tab_put (tab_put (tab_put (tab_put (tab_put (tab_put (tab_put (tab_nil _) K16) K17) K18) K19) K29) K39) K40) K41) K56) K76) K77) K83) K87) K89) K93) K98) K111) K112) K113) K114) K123) K155) K157) K169) K180) K188) K190) K191) K192) K193) K194) K200) K204) K205) K206) K224) K225) K227) K229) K230)
noncomputable def tab1 : Tab := (T.put (T.put (T.put (T.put (T.put (T.put (T.put (T.put (T.put (T.put (T.put (T.put (T.put (T.put (T.put (T.put (T.put (T.put (T.put (T.put (T.put (T.put (T.put (T.put (T.put (T.put (T.put (T.put (T.put (T.put (T.put (T.put (T.put (T.put (T.put (T.put tab0 231 (some W231)) 232 (some W232)) 233 (some W233)) 235 (some W235)) 236 (some W236)) 258 (some W258)) 280 (some W280)) 287 (some W287)) 292 (some W292)) 293 (some W293)) 294 (some W294)) 303 (some W303)) 304 (some W304)) 305 (some W305)) 324 (some W324)) 325 (some W325)) 326 (some W326)) 328 (some W328)) 330 (some W330)) 406 (some W406)) 407 (some W407)) 408 (some W408)) 409 (some W409)) 445 (some W445)) 446 (some W446)) 455 (some W455)) 503 (some W503)) 515 (some W515)) 516 (some W516)) 521 (some W521)) 523 (some W523)) 541 (some W541)) 566 (some W566)) 568 (some W568)) 569 (some W569)) 573 (some W573))
theorem tabOk1 : TabOk Tryz.prog 100000 tab1 := (tab_put (tab_put (tab_put (tab_put (tab_put (tab_put (tab_put (tab_put (tab_put (tab_put (tab_put (tab_put (tab_put (tab_put (tab_put (tab_put (tab_put (tab_put (tab_put (tab_put (tab_put (tab_put (tab_put (tab_put (tab_put (tab_put (tab_put (tab_put (tab_put (tab_put (tab_put (tab_put (tab_put (tab_put (tab_put (tab_put tabOk0 K231) K232) K233) K235) K236) K258) K280) K287) K292) K293) K294) K303) K304) K305) K324) K325) K326) K328) K330) K406) K407) K408) K409) K445) K446) K455) K503) K515) K516) K521) K523) K541) K566) K568) K569) K573)
noncomputable abbrev tab : Tab := tab1
theorem tabOk : TabOk Tryz.prog 100000 tab := tabOk1
end Go.Proofs.YtpegimipbigmbaaGreatDoor.Bodies
