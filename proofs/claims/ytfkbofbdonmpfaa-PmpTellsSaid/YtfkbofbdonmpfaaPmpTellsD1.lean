/- PmpTells: what its run asks, and that it holds. -/
import Derived.Test.YtfkbofbdonmpfaaPmpTellsD0
import Derived.KernelRfl
set_option linter.unusedSimpArgs false
set_option linter.unusedVariables false
set_option linter.unusedSectionVars false
set_option linter.unnecessarySimpa false
namespace Go.Proofs.Ytfkbofbdonmpfaa.pmpTells
open Go.Am

def T1170 : Pt := (ic 0 27 27 (nc 0 31 27 (nc 0 63 27 (nc 0 127 27 (nc 0 255 27 (nc 0 511 27 (fk 28 1 T1169 (yt 1 511 .done))))))))

def T1171 : Pt := (ic 0 26 26 (nc 0 31 26 (nc 0 63 26 (nc 0 127 26 (nc 0 255 26 (nc 0 511 26 (fk 27 1 T1170 (yt 1 511 .done))))))))

def T1172 : Pt := (ic 0 25 25 (nc 0 31 25 (nc 0 63 25 (nc 0 127 25 (nc 0 255 25 (nc 0 511 25 (fk 26 1 T1171 (yt 1 511 .done))))))))

def T1173 : Pt := (ic 0 24 24 (nc 0 31 24 (nc 0 63 24 (nc 0 127 24 (nc 0 255 24 (nc 0 511 24 (fk 25 1 T1172 (yt 1 511 .done))))))))

def T1174 : Pt := (ic 0 23 23 (nc 0 31 23 (nc 0 63 23 (nc 0 127 23 (nc 0 255 23 (nc 0 511 23 (fk 24 1 T1173 (yt 1 511 .done))))))))

def T1175 : Pt := (ic 0 22 22 (nc 0 31 22 (nc 0 63 22 (nc 0 127 22 (nc 0 255 22 (nc 0 511 22 (fk 23 1 T1174 (yt 1 511 .done))))))))

def T1176 : Pt := (ic 0 21 21 (nc 0 31 21 (nc 0 63 21 (nc 0 127 21 (nc 0 255 21 (nc 0 511 21 (fk 22 1 T1175 (yt 1 511 .done))))))))

def T1177 : Pt := (ic 0 20 20 (nc 0 31 20 (nc 0 63 20 (nc 0 127 20 (nc 0 255 20 (nc 0 511 20 (fk 21 1 T1176 (yt 1 511 .done))))))))

def T1178 : Pt := (ic 0 19 19 (nc 0 31 19 (nc 0 63 19 (nc 0 127 19 (nc 0 255 19 (nc 0 511 19 (fk 20 1 T1177 (yt 1 511 .done))))))))

def T1179 : Pt := (ic 0 18 18 (nc 0 31 18 (nc 0 63 18 (nc 0 127 18 (nc 0 255 18 (nc 0 511 18 (fk 19 1 T1178 (yt 1 511 .done))))))))

def T1180 : Pt := (ic 0 17 17 (nc 0 31 17 (nc 0 63 17 (nc 0 127 17 (nc 0 255 17 (nc 0 511 17 (fk 18 1 T1179 (yt 1 511 .done))))))))

def T1181 : Pt := (ic 0 16 16 (nc 0 31 16 (nc 0 63 16 (nc 0 127 16 (nc 0 255 16 (nc 0 511 16 (fk 17 1 T1180 (yt 1 511 .done))))))))

def T1182 : Pt := (.yes (.le (.a 0 (15)) (.a 0 (15))) (nl 0 31 0 15 (nl 0 63 0 15 (nl 0 127 0 15 (nl 0 255 0 15 (nl 0 511 0 15 (.yes (.lt (.c 0) (.a 0 (15))) (.is (.ib .sub .i64 (.a 0 (15)) (.c 0)) (.c 15) (fk 16 1 T1181 (yt 1 511 .done))))))))))

def T1183 : Pt := (ic 0 14 14 (nc 0 15 14 (nc 0 31 14 (nc 0 63 14 (nc 0 127 14 (nc 0 255 14 (nc 0 511 14 (fk 15 1 T1182 (yt 1 511 .done)))))))))

def T1184 : Pt := (ic 0 13 13 (nc 0 15 13 (nc 0 31 13 (nc 0 63 13 (nc 0 127 13 (nc 0 255 13 (nc 0 511 13 (fk 14 1 T1183 (yt 1 511 .done)))))))))

def T1185 : Pt := (ic 0 12 12 (nc 0 15 12 (nc 0 31 12 (nc 0 63 12 (nc 0 127 12 (nc 0 255 12 (nc 0 511 12 (fk 13 1 T1184 (yt 1 511 .done)))))))))

def T1186 : Pt := (ic 0 11 11 (nc 0 15 11 (nc 0 31 11 (nc 0 63 11 (nc 0 127 11 (nc 0 255 11 (nc 0 511 11 (fk 12 1 T1185 (yt 1 511 .done)))))))))

def T1187 : Pt := (ic 0 10 10 (nc 0 15 10 (nc 0 31 10 (nc 0 63 10 (nc 0 127 10 (nc 0 255 10 (nc 0 511 10 (fk 11 1 T1186 (yt 1 511 .done)))))))))

def T1188 : Pt := (ic 0 9 9 (nc 0 15 9 (nc 0 31 9 (nc 0 63 9 (nc 0 127 9 (nc 0 255 9 (nc 0 511 9 (fk 10 1 T1187 (yt 1 511 .done)))))))))

def T1189 : Pt := (ic 0 8 8 (nc 0 15 8 (nc 0 31 8 (nc 0 63 8 (nc 0 127 8 (nc 0 255 8 (nc 0 511 8 (fk 9 1 T1188 (yt 1 511 .done)))))))))

def T1190 : Pt := (.yes (.le (.a 0 (7)) (.a 0 (7))) (nl 0 15 0 7 (nl 0 31 0 7 (nl 0 63 0 7 (nl 0 127 0 7 (nl 0 255 0 7 (nl 0 511 0 7 (.yes (.lt (.c 0) (.a 0 (7))) (.is (.ib .sub .i64 (.a 0 (7)) (.c 0)) (.c 7) (fk 8 1 T1189 (yt 1 511 .done)))))))))))

def T1191 : Pt := (ic 0 6 6 (nc 0 7 6 (nc 0 15 6 (nc 0 31 6 (nc 0 63 6 (nc 0 127 6 (nc 0 255 6 (nc 0 511 6 (fk 7 1 T1190 (yt 1 511 .done))))))))))

def T1192 : Pt := (ic 0 5 5 (nc 0 7 5 (nc 0 15 5 (nc 0 31 5 (nc 0 63 5 (nc 0 127 5 (nc 0 255 5 (nc 0 511 5 (fk 6 1 T1191 (yt 1 511 .done))))))))))

def T1193 : Pt := (ic 0 4 4 (nc 0 7 4 (nc 0 15 4 (nc 0 31 4 (nc 0 63 4 (nc 0 127 4 (nc 0 255 4 (nc 0 511 4 (fk 5 1 T1192 (yt 1 511 .done))))))))))

def T1194 : Pt := (.yes (.le (.a 0 (3)) (.a 0 (3))) (nl 0 7 0 3 (nl 0 15 0 3 (nl 0 31 0 3 (nl 0 63 0 3 (nl 0 127 0 3 (nl 0 255 0 3 (nl 0 511 0 3 (.yes (.lt (.c 0) (.a 0 (3))) (.is (.ib .sub .i64 (.a 0 (3)) (.c 0)) (.c 3) (fk 4 1 T1193 (yt 1 511 .done))))))))))))

def T1195 : Pt := (ic 0 2 2 (nc 0 3 2 (nc 0 7 2 (nc 0 15 2 (nc 0 31 2 (nc 0 63 2 (nc 0 127 2 (nc 0 255 2 (nc 0 511 2 (fk 3 1 T1194 (yt 1 511 .done)))))))))))

def T1196 : Pt := (.yes (.le (.a 0 (1)) (.a 0 (1))) (nl 0 3 0 1 (nl 0 7 0 1 (nl 0 15 0 1 (nl 0 31 0 1 (nl 0 63 0 1 (nl 0 127 0 1 (nl 0 255 0 1 (nl 0 511 0 1 (.yes (.lt (.c 0) (.a 0 (1))) (.is (.ib .sub .i64 (.a 0 (1)) (.c 0)) (.c 1) (fk 2 1 T1195 (yt 1 511 .done)))))))))))))

def T1197 : Pt := (fk 1 1 T1196 (yt 1 511 .done))

def T1198 : Pt := (.is (.ib .add .i64 (.v 0) (.c 0)) (.v 0) (ia 0 1 0 1 (ia 0 3 0 3 (ia 0 7 0 7 (ia 0 15 0 15 (ia 0 31 0 31 (ia 0 63 0 63 (ia 0 127 0 127 (ia 0 255 0 255 (ia 0 511 0 511 (.yes (.le (.c 0) (.v 1)) (.yes (.le (.v 0) (.v 0)) (.no (.le (.a 0 (1)) (.v 0)) (.no (.le (.a 0 (3)) (.v 0)) (.no (.le (.a 0 (7)) (.v 0)) (.no (.le (.a 0 (15)) (.v 0)) (.no (.le (.a 0 (31)) (.v 0)) (.no (.le (.a 0 (63)) (.v 0)) (.no (.le (.a 0 (127)) (.v 0)) (.no (.le (.a 0 (255)) (.v 0)) (.no (.le (.a 0 (511)) (.v 0)) (.fork (.lt (.c 0) (.v 0)) T598 T1197))))))))))))))))))))))

def T1199 : Pt := (.fork (.lt (.c 600) (.v 1)) .done T1198)

def T1200 : Pt := (.fork (.lt (.v 1) (.c 0)) .done T1199)

def T1201 : Pt := (.fork (.lt (.c 549755813888) (.v 0)) .done T1200)

def T1202 : Pt := (.fork (.lt (.v 0) (.c 0)) .done T1201)

def R0 : Pt := (.fork (.le (.c 596) (.v 1)) (.fork (.le (.c 597) (.v 1)) (.fork (.le (.c 598) (.v 1)) (.fork (.le (.c 599) (.v 1)) (.fork (.le (.c 600) (.v 1)) .done .done) .done) .done) .done) .done)

def R1 : Pt := (.fork (.le (.c 595) (.v 1)) R0 .done)

def R2 : Pt := (.fork (.le (.c 594) (.v 1)) R1 .done)

def R3 : Pt := (.fork (.le (.c 593) (.v 1)) R2 .done)

def R4 : Pt := (.fork (.le (.c 592) (.v 1)) R3 .done)

def R5 : Pt := (.fork (.le (.c 591) (.v 1)) R4 .done)

def R6 : Pt := (.fork (.le (.c 590) (.v 1)) R5 .done)

def R7 : Pt := (.fork (.le (.c 589) (.v 1)) R6 .done)

def R8 : Pt := (.fork (.le (.c 588) (.v 1)) R7 .done)

def R9 : Pt := (.fork (.le (.c 587) (.v 1)) R8 .done)

def R10 : Pt := (.fork (.le (.c 586) (.v 1)) R9 .done)

def R11 : Pt := (.fork (.le (.c 585) (.v 1)) R10 .done)

def R12 : Pt := (.fork (.le (.c 584) (.v 1)) R11 .done)

def R13 : Pt := (.fork (.le (.c 583) (.v 1)) R12 .done)

def R14 : Pt := (.fork (.le (.c 582) (.v 1)) R13 .done)

def R15 : Pt := (.fork (.le (.c 581) (.v 1)) R14 .done)

def R16 : Pt := (.fork (.le (.c 580) (.v 1)) R15 .done)

def R17 : Pt := (.fork (.le (.c 579) (.v 1)) R16 .done)

def R18 : Pt := (.fork (.le (.c 578) (.v 1)) R17 .done)

def R19 : Pt := (.fork (.le (.c 577) (.v 1)) R18 .done)

def R20 : Pt := (.fork (.le (.c 576) (.v 1)) R19 .done)

def R21 : Pt := (.fork (.le (.c 575) (.v 1)) R20 .done)

def R22 : Pt := (.fork (.le (.c 574) (.v 1)) R21 .done)

def R23 : Pt := (.fork (.le (.c 573) (.v 1)) R22 .done)

def R24 : Pt := (.fork (.le (.c 572) (.v 1)) R23 .done)

def R25 : Pt := (.fork (.le (.c 571) (.v 1)) R24 .done)

def R26 : Pt := (.fork (.le (.c 570) (.v 1)) R25 .done)

def R27 : Pt := (.fork (.le (.c 569) (.v 1)) R26 .done)

def R28 : Pt := (.fork (.le (.c 568) (.v 1)) R27 .done)

def R29 : Pt := (.fork (.le (.c 567) (.v 1)) R28 .done)

def R30 : Pt := (.fork (.le (.c 566) (.v 1)) R29 .done)

def R31 : Pt := (.fork (.le (.c 565) (.v 1)) R30 .done)

def R32 : Pt := (.fork (.le (.c 564) (.v 1)) R31 .done)

def R33 : Pt := (.fork (.le (.c 563) (.v 1)) R32 .done)

def R34 : Pt := (.fork (.le (.c 562) (.v 1)) R33 .done)

def R35 : Pt := (.fork (.le (.c 561) (.v 1)) R34 .done)

def R36 : Pt := (.fork (.le (.c 560) (.v 1)) R35 .done)

def R37 : Pt := (.fork (.le (.c 559) (.v 1)) R36 .done)

def R38 : Pt := (.fork (.le (.c 558) (.v 1)) R37 .done)

def R39 : Pt := (.fork (.le (.c 557) (.v 1)) R38 .done)

def R40 : Pt := (.fork (.le (.c 556) (.v 1)) R39 .done)

def R41 : Pt := (.fork (.le (.c 555) (.v 1)) R40 .done)

def R42 : Pt := (.fork (.le (.c 554) (.v 1)) R41 .done)

def R43 : Pt := (.fork (.le (.c 553) (.v 1)) R42 .done)

def R44 : Pt := (.fork (.le (.c 552) (.v 1)) R43 .done)

def R45 : Pt := (.fork (.le (.c 551) (.v 1)) R44 .done)

def R46 : Pt := (.fork (.le (.c 550) (.v 1)) R45 .done)

def R47 : Pt := (.fork (.le (.c 549) (.v 1)) R46 .done)

def R48 : Pt := (.fork (.le (.c 548) (.v 1)) R47 .done)

def R49 : Pt := (.fork (.le (.c 547) (.v 1)) R48 .done)

def R50 : Pt := (.fork (.le (.c 546) (.v 1)) R49 .done)

def R51 : Pt := (.fork (.le (.c 545) (.v 1)) R50 .done)

def R52 : Pt := (.fork (.le (.c 544) (.v 1)) R51 .done)

def R53 : Pt := (.fork (.le (.c 543) (.v 1)) R52 .done)

def R54 : Pt := (.fork (.le (.c 542) (.v 1)) R53 .done)

def R55 : Pt := (.fork (.le (.c 541) (.v 1)) R54 .done)

def R56 : Pt := (.fork (.le (.c 540) (.v 1)) R55 .done)

def R57 : Pt := (.fork (.le (.c 539) (.v 1)) R56 .done)

def R58 : Pt := (.fork (.le (.c 538) (.v 1)) R57 .done)

def R59 : Pt := (.fork (.le (.c 537) (.v 1)) R58 .done)

def R60 : Pt := (.fork (.le (.c 536) (.v 1)) R59 .done)

def R61 : Pt := (.fork (.le (.c 535) (.v 1)) R60 .done)

def R62 : Pt := (.fork (.le (.c 534) (.v 1)) R61 .done)

def R63 : Pt := (.fork (.le (.c 533) (.v 1)) R62 .done)

def R64 : Pt := (.fork (.le (.c 532) (.v 1)) R63 .done)

def R65 : Pt := (.fork (.le (.c 531) (.v 1)) R64 .done)

def R66 : Pt := (.fork (.le (.c 530) (.v 1)) R65 .done)

def R67 : Pt := (.fork (.le (.c 529) (.v 1)) R66 .done)

def R68 : Pt := (.fork (.le (.c 528) (.v 1)) R67 .done)

def R69 : Pt := (.fork (.le (.c 527) (.v 1)) R68 .done)

def R70 : Pt := (.fork (.le (.c 526) (.v 1)) R69 .done)

def R71 : Pt := (.fork (.le (.c 525) (.v 1)) R70 .done)

def R72 : Pt := (.fork (.le (.c 524) (.v 1)) R71 .done)

def R73 : Pt := (.fork (.le (.c 523) (.v 1)) R72 .done)

def R74 : Pt := (.fork (.le (.c 522) (.v 1)) R73 .done)

def R75 : Pt := (.fork (.le (.c 521) (.v 1)) R74 .done)

def R76 : Pt := (.fork (.le (.c 520) (.v 1)) R75 .done)

def R77 : Pt := (.fork (.le (.c 519) (.v 1)) R76 .done)

def R78 : Pt := (.fork (.le (.c 518) (.v 1)) R77 .done)

def R79 : Pt := (.fork (.le (.c 517) (.v 1)) R78 .done)

def R80 : Pt := (.fork (.le (.c 516) (.v 1)) R79 .done)

def R81 : Pt := (.fork (.le (.c 515) (.v 1)) R80 .done)

def R82 : Pt := (.fork (.le (.c 514) (.v 1)) R81 .done)

def R83 : Pt := (.fork (.le (.c 513) (.v 1)) R82 .done)

def R84 : Pt := (.new (.wr .u32 (.a 0 (511))) (.new (.sh .shr .u32 (.v 65) (.c 24)) (.is (.wr .u8 (.v 66)) (.v 66) (.new (.sh .shr .u32 (.v 65) (.c 16)) (.new (.wr .u8 (.v 67)) (.new (.sh .shr .u32 (.v 65) (.c 8)) (.new (.wr .u8 (.v 69)) (.is (.wr .u8 (.v 65)) (.v 64) (.fork (.le (.c 512) (.v 1)) R83 .done)))))))))

def R85 : Pt := (.fork (.le (.c 511) (.v 1)) R84 .done)

def R86 : Pt := (.fork (.le (.c 510) (.v 1)) R85 .done)

def R87 : Pt := (.fork (.le (.c 509) (.v 1)) R86 .done)

def R88 : Pt := (.fork (.le (.c 508) (.v 1)) R87 .done)

def R89 : Pt := (.fork (.le (.c 507) (.v 1)) R88 .done)

def R90 : Pt := (.fork (.le (.c 506) (.v 1)) R89 .done)

def R91 : Pt := (.fork (.le (.c 505) (.v 1)) R90 .done)

def R92 : Pt := (.fork (.le (.c 504) (.v 1)) R91 .done)

def R93 : Pt := (.fork (.le (.c 503) (.v 1)) R92 .done)

def R94 : Pt := (.fork (.le (.c 502) (.v 1)) R93 .done)

def R95 : Pt := (.fork (.le (.c 501) (.v 1)) R94 .done)

def R96 : Pt := (.fork (.le (.c 500) (.v 1)) R95 .done)

def R97 : Pt := (.fork (.le (.c 499) (.v 1)) R96 .done)

def R98 : Pt := (.fork (.le (.c 498) (.v 1)) R97 .done)

def R99 : Pt := (.fork (.le (.c 497) (.v 1)) R98 .done)

def R100 : Pt := (.fork (.le (.c 496) (.v 1)) R99 .done)

def R101 : Pt := (.fork (.le (.c 495) (.v 1)) R100 .done)

def R102 : Pt := (.fork (.le (.c 494) (.v 1)) R101 .done)

def R103 : Pt := (.fork (.le (.c 493) (.v 1)) R102 .done)

def R104 : Pt := (.fork (.le (.c 492) (.v 1)) R103 .done)

def R105 : Pt := (.fork (.le (.c 491) (.v 1)) R104 .done)

def R106 : Pt := (.fork (.le (.c 490) (.v 1)) R105 .done)

def R107 : Pt := (.fork (.le (.c 489) (.v 1)) R106 .done)

def R108 : Pt := (.fork (.le (.c 488) (.v 1)) R107 .done)

def R109 : Pt := (.fork (.le (.c 487) (.v 1)) R108 .done)

def R110 : Pt := (.fork (.le (.c 486) (.v 1)) R109 .done)

def R111 : Pt := (.fork (.le (.c 485) (.v 1)) R110 .done)

def R112 : Pt := (.fork (.le (.c 484) (.v 1)) R111 .done)

def R113 : Pt := (.fork (.le (.c 483) (.v 1)) R112 .done)

def R114 : Pt := (.fork (.le (.c 482) (.v 1)) R113 .done)

def R115 : Pt := (.fork (.le (.c 481) (.v 1)) R114 .done)

def R116 : Pt := (.fork (.le (.c 480) (.v 1)) R115 .done)

def R117 : Pt := (.fork (.le (.c 479) (.v 1)) R116 .done)

def R118 : Pt := (.fork (.le (.c 478) (.v 1)) R117 .done)

def R119 : Pt := (.fork (.le (.c 477) (.v 1)) R118 .done)

def R120 : Pt := (.fork (.le (.c 476) (.v 1)) R119 .done)

def R121 : Pt := (.fork (.le (.c 475) (.v 1)) R120 .done)

def R122 : Pt := (.fork (.le (.c 474) (.v 1)) R121 .done)

def R123 : Pt := (.fork (.le (.c 473) (.v 1)) R122 .done)

def R124 : Pt := (.fork (.le (.c 472) (.v 1)) R123 .done)

def R125 : Pt := (.fork (.le (.c 471) (.v 1)) R124 .done)

def R126 : Pt := (.fork (.le (.c 470) (.v 1)) R125 .done)

def R127 : Pt := (.fork (.le (.c 469) (.v 1)) R126 .done)

def R128 : Pt := (.fork (.le (.c 468) (.v 1)) R127 .done)

def R129 : Pt := (.fork (.le (.c 467) (.v 1)) R128 .done)

def R130 : Pt := (.fork (.le (.c 466) (.v 1)) R129 .done)

def R131 : Pt := (.fork (.le (.c 465) (.v 1)) R130 .done)

def R132 : Pt := (.fork (.le (.c 464) (.v 1)) R131 .done)

def R133 : Pt := (.fork (.le (.c 463) (.v 1)) R132 .done)

def R134 : Pt := (.fork (.le (.c 462) (.v 1)) R133 .done)

def R135 : Pt := (.fork (.le (.c 461) (.v 1)) R134 .done)

def R136 : Pt := (.fork (.le (.c 460) (.v 1)) R135 .done)

def R137 : Pt := (.fork (.le (.c 459) (.v 1)) R136 .done)

def R138 : Pt := (.fork (.le (.c 458) (.v 1)) R137 .done)

def R139 : Pt := (.fork (.le (.c 457) (.v 1)) R138 .done)

def R140 : Pt := (.fork (.le (.c 456) (.v 1)) R139 .done)

def R141 : Pt := (.fork (.le (.c 455) (.v 1)) R140 .done)

def R142 : Pt := (.fork (.le (.c 454) (.v 1)) R141 .done)

def R143 : Pt := (.fork (.le (.c 453) (.v 1)) R142 .done)

def R144 : Pt := (.fork (.le (.c 452) (.v 1)) R143 .done)

def R145 : Pt := (.fork (.le (.c 451) (.v 1)) R144 .done)

def R146 : Pt := (.fork (.le (.c 450) (.v 1)) R145 .done)

def R147 : Pt := (.fork (.le (.c 449) (.v 1)) R146 .done)

def R148 : Pt := (.fork (.le (.c 448) (.v 1)) R147 .done)

def R149 : Pt := (.fork (.le (.c 447) (.v 1)) R148 .done)

def R150 : Pt := (.fork (.le (.c 446) (.v 1)) R149 .done)

def R151 : Pt := (.fork (.le (.c 445) (.v 1)) R150 .done)

def R152 : Pt := (.fork (.le (.c 444) (.v 1)) R151 .done)

def R153 : Pt := (.fork (.le (.c 443) (.v 1)) R152 .done)

def R154 : Pt := (.fork (.le (.c 442) (.v 1)) R153 .done)

def R155 : Pt := (.fork (.le (.c 441) (.v 1)) R154 .done)

def R156 : Pt := (.fork (.le (.c 440) (.v 1)) R155 .done)

def R157 : Pt := (.fork (.le (.c 439) (.v 1)) R156 .done)

def R158 : Pt := (.fork (.le (.c 438) (.v 1)) R157 .done)

def R159 : Pt := (.fork (.le (.c 437) (.v 1)) R158 .done)

def R160 : Pt := (.fork (.le (.c 436) (.v 1)) R159 .done)

def R161 : Pt := (.fork (.le (.c 435) (.v 1)) R160 .done)

def R162 : Pt := (.fork (.le (.c 434) (.v 1)) R161 .done)

def R163 : Pt := (.fork (.le (.c 433) (.v 1)) R162 .done)

def R164 : Pt := (.fork (.le (.c 432) (.v 1)) R163 .done)

def R165 : Pt := (.fork (.le (.c 431) (.v 1)) R164 .done)

def R166 : Pt := (.fork (.le (.c 430) (.v 1)) R165 .done)

def R167 : Pt := (.fork (.le (.c 429) (.v 1)) R166 .done)

def R168 : Pt := (.fork (.le (.c 428) (.v 1)) R167 .done)

def R169 : Pt := (.fork (.le (.c 427) (.v 1)) R168 .done)

def R170 : Pt := (.fork (.le (.c 426) (.v 1)) R169 .done)

def R171 : Pt := (.fork (.le (.c 425) (.v 1)) R170 .done)

def R172 : Pt := (.fork (.le (.c 424) (.v 1)) R171 .done)

def R173 : Pt := (.fork (.le (.c 423) (.v 1)) R172 .done)

def R174 : Pt := (.fork (.le (.c 422) (.v 1)) R173 .done)

def R175 : Pt := (.fork (.le (.c 421) (.v 1)) R174 .done)

def R176 : Pt := (.fork (.le (.c 420) (.v 1)) R175 .done)

def R177 : Pt := (.fork (.le (.c 419) (.v 1)) R176 .done)

def R178 : Pt := (.fork (.le (.c 418) (.v 1)) R177 .done)

def R179 : Pt := (.fork (.le (.c 417) (.v 1)) R178 .done)

def R180 : Pt := (.fork (.le (.c 416) (.v 1)) R179 .done)

def R181 : Pt := (.fork (.le (.c 415) (.v 1)) R180 .done)

def R182 : Pt := (.fork (.le (.c 414) (.v 1)) R181 .done)

def R183 : Pt := (.fork (.le (.c 413) (.v 1)) R182 .done)

def R184 : Pt := (.fork (.le (.c 412) (.v 1)) R183 .done)

def R185 : Pt := (.fork (.le (.c 411) (.v 1)) R184 .done)

def R186 : Pt := (.fork (.le (.c 410) (.v 1)) R185 .done)

def R187 : Pt := (.fork (.le (.c 409) (.v 1)) R186 .done)

def R188 : Pt := (.fork (.le (.c 408) (.v 1)) R187 .done)

def R189 : Pt := (.fork (.le (.c 407) (.v 1)) R188 .done)

def R190 : Pt := (.fork (.le (.c 406) (.v 1)) R189 .done)

def R191 : Pt := (.fork (.le (.c 405) (.v 1)) R190 .done)

def R192 : Pt := (.fork (.le (.c 404) (.v 1)) R191 .done)

def R193 : Pt := (.fork (.le (.c 403) (.v 1)) R192 .done)

def R194 : Pt := (.fork (.le (.c 402) (.v 1)) R193 .done)

def R195 : Pt := (.fork (.le (.c 401) (.v 1)) R194 .done)

def R196 : Pt := (.fork (.le (.c 400) (.v 1)) R195 .done)

def R197 : Pt := (.fork (.le (.c 399) (.v 1)) R196 .done)

def R198 : Pt := (.fork (.le (.c 398) (.v 1)) R197 .done)

def R199 : Pt := (.fork (.le (.c 397) (.v 1)) R198 .done)

def R200 : Pt := (.fork (.le (.c 396) (.v 1)) R199 .done)

def R201 : Pt := (.fork (.le (.c 395) (.v 1)) R200 .done)

def R202 : Pt := (.fork (.le (.c 394) (.v 1)) R201 .done)

def R203 : Pt := (.fork (.le (.c 393) (.v 1)) R202 .done)

def R204 : Pt := (.fork (.le (.c 392) (.v 1)) R203 .done)

def R205 : Pt := (.fork (.le (.c 391) (.v 1)) R204 .done)

def R206 : Pt := (.fork (.le (.c 390) (.v 1)) R205 .done)

def R207 : Pt := (.fork (.le (.c 389) (.v 1)) R206 .done)

def R208 : Pt := (.fork (.le (.c 388) (.v 1)) R207 .done)

def R209 : Pt := (.fork (.le (.c 387) (.v 1)) R208 .done)

def R210 : Pt := (.fork (.le (.c 386) (.v 1)) R209 .done)

def R211 : Pt := (.fork (.le (.c 385) (.v 1)) R210 .done)

def R212 : Pt := (.fork (.le (.c 384) (.v 1)) R211 .done)

def R213 : Pt := (.fork (.le (.c 383) (.v 1)) R212 .done)

def R214 : Pt := (.fork (.le (.c 382) (.v 1)) R213 .done)

def R215 : Pt := (.fork (.le (.c 381) (.v 1)) R214 .done)

def R216 : Pt := (.fork (.le (.c 380) (.v 1)) R215 .done)

def R217 : Pt := (.fork (.le (.c 379) (.v 1)) R216 .done)

def R218 : Pt := (.fork (.le (.c 378) (.v 1)) R217 .done)

def R219 : Pt := (.fork (.le (.c 377) (.v 1)) R218 .done)

def R220 : Pt := (.fork (.le (.c 376) (.v 1)) R219 .done)

def R221 : Pt := (.fork (.le (.c 375) (.v 1)) R220 .done)

def R222 : Pt := (.fork (.le (.c 374) (.v 1)) R221 .done)

def R223 : Pt := (.fork (.le (.c 373) (.v 1)) R222 .done)

def R224 : Pt := (.fork (.le (.c 372) (.v 1)) R223 .done)

def R225 : Pt := (.fork (.le (.c 371) (.v 1)) R224 .done)

def R226 : Pt := (.fork (.le (.c 370) (.v 1)) R225 .done)

def R227 : Pt := (.fork (.le (.c 369) (.v 1)) R226 .done)

def R228 : Pt := (.fork (.le (.c 368) (.v 1)) R227 .done)

def R229 : Pt := (.fork (.le (.c 367) (.v 1)) R228 .done)

def R230 : Pt := (.fork (.le (.c 366) (.v 1)) R229 .done)

def R231 : Pt := (.fork (.le (.c 365) (.v 1)) R230 .done)

def R232 : Pt := (.fork (.le (.c 364) (.v 1)) R231 .done)

def R233 : Pt := (.fork (.le (.c 363) (.v 1)) R232 .done)

def R234 : Pt := (.fork (.le (.c 362) (.v 1)) R233 .done)

def R235 : Pt := (.fork (.le (.c 361) (.v 1)) R234 .done)

def R236 : Pt := (.fork (.le (.c 360) (.v 1)) R235 .done)

def R237 : Pt := (.fork (.le (.c 359) (.v 1)) R236 .done)

def R238 : Pt := (.fork (.le (.c 358) (.v 1)) R237 .done)

def R239 : Pt := (.fork (.le (.c 357) (.v 1)) R238 .done)

def R240 : Pt := (.fork (.le (.c 356) (.v 1)) R239 .done)

def R241 : Pt := (.fork (.le (.c 355) (.v 1)) R240 .done)

def R242 : Pt := (.fork (.le (.c 354) (.v 1)) R241 .done)

def R243 : Pt := (.fork (.le (.c 353) (.v 1)) R242 .done)

def R244 : Pt := (.fork (.le (.c 352) (.v 1)) R243 .done)

def R245 : Pt := (.fork (.le (.c 351) (.v 1)) R244 .done)

def R246 : Pt := (.fork (.le (.c 350) (.v 1)) R245 .done)

def R247 : Pt := (.fork (.le (.c 349) (.v 1)) R246 .done)

def R248 : Pt := (.fork (.le (.c 348) (.v 1)) R247 .done)

def R249 : Pt := (.fork (.le (.c 347) (.v 1)) R248 .done)

def R250 : Pt := (.fork (.le (.c 346) (.v 1)) R249 .done)

def R251 : Pt := (.fork (.le (.c 345) (.v 1)) R250 .done)

def R252 : Pt := (.fork (.le (.c 344) (.v 1)) R251 .done)

def R253 : Pt := (.fork (.le (.c 343) (.v 1)) R252 .done)

def R254 : Pt := (.fork (.le (.c 342) (.v 1)) R253 .done)

def R255 : Pt := (.fork (.le (.c 341) (.v 1)) R254 .done)

def R256 : Pt := (.fork (.le (.c 340) (.v 1)) R255 .done)

def R257 : Pt := (.fork (.le (.c 339) (.v 1)) R256 .done)

def R258 : Pt := (.fork (.le (.c 338) (.v 1)) R257 .done)

def R259 : Pt := (.fork (.le (.c 337) (.v 1)) R258 .done)

def R260 : Pt := (.fork (.le (.c 336) (.v 1)) R259 .done)

def R261 : Pt := (.fork (.le (.c 335) (.v 1)) R260 .done)

def R262 : Pt := (.fork (.le (.c 334) (.v 1)) R261 .done)

def R263 : Pt := (.fork (.le (.c 333) (.v 1)) R262 .done)

def R264 : Pt := (.fork (.le (.c 332) (.v 1)) R263 .done)

def R265 : Pt := (.fork (.le (.c 331) (.v 1)) R264 .done)

def R266 : Pt := (.fork (.le (.c 330) (.v 1)) R265 .done)

def R267 : Pt := (.fork (.le (.c 329) (.v 1)) R266 .done)

def R268 : Pt := (.fork (.le (.c 328) (.v 1)) R267 .done)

def R269 : Pt := (.fork (.le (.c 327) (.v 1)) R268 .done)

def R270 : Pt := (.fork (.le (.c 326) (.v 1)) R269 .done)

def R271 : Pt := (.fork (.le (.c 325) (.v 1)) R270 .done)

def R272 : Pt := (.fork (.le (.c 324) (.v 1)) R271 .done)

def R273 : Pt := (.fork (.le (.c 323) (.v 1)) R272 .done)

def R274 : Pt := (.fork (.le (.c 322) (.v 1)) R273 .done)

def R275 : Pt := (.fork (.le (.c 321) (.v 1)) R274 .done)

def R276 : Pt := (.fork (.le (.c 320) (.v 1)) R275 .done)

def R277 : Pt := (.fork (.le (.c 319) (.v 1)) R276 .done)

def R278 : Pt := (.fork (.le (.c 318) (.v 1)) R277 .done)

def R279 : Pt := (.fork (.le (.c 317) (.v 1)) R278 .done)

def R280 : Pt := (.fork (.le (.c 316) (.v 1)) R279 .done)

def R281 : Pt := (.fork (.le (.c 315) (.v 1)) R280 .done)

def R282 : Pt := (.fork (.le (.c 314) (.v 1)) R281 .done)

def R283 : Pt := (.fork (.le (.c 313) (.v 1)) R282 .done)

def R284 : Pt := (.fork (.le (.c 312) (.v 1)) R283 .done)

def R285 : Pt := (.fork (.le (.c 311) (.v 1)) R284 .done)

def R286 : Pt := (.fork (.le (.c 310) (.v 1)) R285 .done)

def R287 : Pt := (.fork (.le (.c 309) (.v 1)) R286 .done)

def R288 : Pt := (.fork (.le (.c 308) (.v 1)) R287 .done)

def R289 : Pt := (.fork (.le (.c 307) (.v 1)) R288 .done)

def R290 : Pt := (.fork (.le (.c 306) (.v 1)) R289 .done)

def R291 : Pt := (.fork (.le (.c 305) (.v 1)) R290 .done)

def R292 : Pt := (.fork (.le (.c 304) (.v 1)) R291 .done)

def R293 : Pt := (.fork (.le (.c 303) (.v 1)) R292 .done)

def R294 : Pt := (.fork (.le (.c 302) (.v 1)) R293 .done)

def R295 : Pt := (.fork (.le (.c 301) (.v 1)) R294 .done)

def R296 : Pt := (.fork (.le (.c 300) (.v 1)) R295 .done)

def R297 : Pt := (.fork (.le (.c 299) (.v 1)) R296 .done)

def R298 : Pt := (.fork (.le (.c 298) (.v 1)) R297 .done)

def R299 : Pt := (.fork (.le (.c 297) (.v 1)) R298 .done)

def R300 : Pt := (.fork (.le (.c 296) (.v 1)) R299 .done)

def R301 : Pt := (.fork (.le (.c 295) (.v 1)) R300 .done)

def R302 : Pt := (.fork (.le (.c 294) (.v 1)) R301 .done)

def R303 : Pt := (.fork (.le (.c 293) (.v 1)) R302 .done)

def R304 : Pt := (.fork (.le (.c 292) (.v 1)) R303 .done)

def R305 : Pt := (.fork (.le (.c 291) (.v 1)) R304 .done)

def R306 : Pt := (.fork (.le (.c 290) (.v 1)) R305 .done)

def R307 : Pt := (.fork (.le (.c 289) (.v 1)) R306 .done)

def R308 : Pt := (.fork (.le (.c 288) (.v 1)) R307 .done)

def R309 : Pt := (.fork (.le (.c 287) (.v 1)) R308 .done)

def R310 : Pt := (.fork (.le (.c 286) (.v 1)) R309 .done)

def R311 : Pt := (.fork (.le (.c 285) (.v 1)) R310 .done)

def R312 : Pt := (.fork (.le (.c 284) (.v 1)) R311 .done)

def R313 : Pt := (.fork (.le (.c 283) (.v 1)) R312 .done)

def R314 : Pt := (.fork (.le (.c 282) (.v 1)) R313 .done)

def R315 : Pt := (.fork (.le (.c 281) (.v 1)) R314 .done)

def R316 : Pt := (.fork (.le (.c 280) (.v 1)) R315 .done)

def R317 : Pt := (.fork (.le (.c 279) (.v 1)) R316 .done)

def R318 : Pt := (.fork (.le (.c 278) (.v 1)) R317 .done)

def R319 : Pt := (.fork (.le (.c 277) (.v 1)) R318 .done)

def R320 : Pt := (.fork (.le (.c 276) (.v 1)) R319 .done)

def R321 : Pt := (.fork (.le (.c 275) (.v 1)) R320 .done)

def R322 : Pt := (.fork (.le (.c 274) (.v 1)) R321 .done)

def R323 : Pt := (.fork (.le (.c 273) (.v 1)) R322 .done)

def R324 : Pt := (.fork (.le (.c 272) (.v 1)) R323 .done)

def R325 : Pt := (.fork (.le (.c 271) (.v 1)) R324 .done)

def R326 : Pt := (.fork (.le (.c 270) (.v 1)) R325 .done)

def R327 : Pt := (.fork (.le (.c 269) (.v 1)) R326 .done)

def R328 : Pt := (.fork (.le (.c 268) (.v 1)) R327 .done)

def R329 : Pt := (.fork (.le (.c 267) (.v 1)) R328 .done)

def R330 : Pt := (.fork (.le (.c 266) (.v 1)) R329 .done)

def R331 : Pt := (.fork (.le (.c 265) (.v 1)) R330 .done)

def R332 : Pt := (.fork (.le (.c 264) (.v 1)) R331 .done)

def R333 : Pt := (.fork (.le (.c 263) (.v 1)) R332 .done)

def R334 : Pt := (.fork (.le (.c 262) (.v 1)) R333 .done)

def R335 : Pt := (.fork (.le (.c 261) (.v 1)) R334 .done)

def R336 : Pt := (.fork (.le (.c 260) (.v 1)) R335 .done)

def R337 : Pt := (.fork (.le (.c 259) (.v 1)) R336 .done)

def R338 : Pt := (.fork (.le (.c 258) (.v 1)) R337 .done)

def R339 : Pt := (.fork (.le (.c 257) (.v 1)) R338 .done)

def R340 : Pt := (.new (.wr .u32 (.a 0 (255))) (.new (.sh .shr .u32 (.v 58) (.c 24)) (.is (.wr .u8 (.v 59)) (.v 59) (.new (.sh .shr .u32 (.v 58) (.c 16)) (.new (.wr .u8 (.v 60)) (.new (.sh .shr .u32 (.v 58) (.c 8)) (.new (.wr .u8 (.v 62)) (.new (.wr .u8 (.v 58)) (.fork (.le (.c 256) (.v 1)) R339 .done)))))))))

def R341 : Pt := (.fork (.le (.c 255) (.v 1)) R340 .done)

def R342 : Pt := (.fork (.le (.c 254) (.v 1)) R341 .done)

def R343 : Pt := (.fork (.le (.c 253) (.v 1)) R342 .done)

def R344 : Pt := (.fork (.le (.c 252) (.v 1)) R343 .done)

def R345 : Pt := (.fork (.le (.c 251) (.v 1)) R344 .done)

def R346 : Pt := (.fork (.le (.c 250) (.v 1)) R345 .done)

def R347 : Pt := (.fork (.le (.c 249) (.v 1)) R346 .done)

def R348 : Pt := (.fork (.le (.c 248) (.v 1)) R347 .done)

def R349 : Pt := (.fork (.le (.c 247) (.v 1)) R348 .done)

def R350 : Pt := (.fork (.le (.c 246) (.v 1)) R349 .done)

def R351 : Pt := (.fork (.le (.c 245) (.v 1)) R350 .done)

def R352 : Pt := (.fork (.le (.c 244) (.v 1)) R351 .done)

def R353 : Pt := (.fork (.le (.c 243) (.v 1)) R352 .done)

def R354 : Pt := (.fork (.le (.c 242) (.v 1)) R353 .done)

def R355 : Pt := (.fork (.le (.c 241) (.v 1)) R354 .done)

def R356 : Pt := (.fork (.le (.c 240) (.v 1)) R355 .done)

def R357 : Pt := (.fork (.le (.c 239) (.v 1)) R356 .done)

def R358 : Pt := (.fork (.le (.c 238) (.v 1)) R357 .done)

def R359 : Pt := (.fork (.le (.c 237) (.v 1)) R358 .done)

def R360 : Pt := (.fork (.le (.c 236) (.v 1)) R359 .done)

def R361 : Pt := (.fork (.le (.c 235) (.v 1)) R360 .done)

def R362 : Pt := (.fork (.le (.c 234) (.v 1)) R361 .done)

def R363 : Pt := (.fork (.le (.c 233) (.v 1)) R362 .done)

def R364 : Pt := (.fork (.le (.c 232) (.v 1)) R363 .done)

def R365 : Pt := (.fork (.le (.c 231) (.v 1)) R364 .done)

def R366 : Pt := (.fork (.le (.c 230) (.v 1)) R365 .done)

def R367 : Pt := (.fork (.le (.c 229) (.v 1)) R366 .done)

def R368 : Pt := (.fork (.le (.c 228) (.v 1)) R367 .done)

def R369 : Pt := (.fork (.le (.c 227) (.v 1)) R368 .done)

def R370 : Pt := (.fork (.le (.c 226) (.v 1)) R369 .done)

def R371 : Pt := (.fork (.le (.c 225) (.v 1)) R370 .done)

def R372 : Pt := (.fork (.le (.c 224) (.v 1)) R371 .done)

def R373 : Pt := (.fork (.le (.c 223) (.v 1)) R372 .done)

def R374 : Pt := (.fork (.le (.c 222) (.v 1)) R373 .done)

def R375 : Pt := (.fork (.le (.c 221) (.v 1)) R374 .done)

def R376 : Pt := (.fork (.le (.c 220) (.v 1)) R375 .done)

def R377 : Pt := (.fork (.le (.c 219) (.v 1)) R376 .done)

def R378 : Pt := (.fork (.le (.c 218) (.v 1)) R377 .done)

def R379 : Pt := (.fork (.le (.c 217) (.v 1)) R378 .done)

def R380 : Pt := (.fork (.le (.c 216) (.v 1)) R379 .done)

def R381 : Pt := (.fork (.le (.c 215) (.v 1)) R380 .done)

def R382 : Pt := (.fork (.le (.c 214) (.v 1)) R381 .done)

def R383 : Pt := (.fork (.le (.c 213) (.v 1)) R382 .done)

def R384 : Pt := (.fork (.le (.c 212) (.v 1)) R383 .done)

def R385 : Pt := (.fork (.le (.c 211) (.v 1)) R384 .done)

def R386 : Pt := (.fork (.le (.c 210) (.v 1)) R385 .done)

def R387 : Pt := (.fork (.le (.c 209) (.v 1)) R386 .done)

def R388 : Pt := (.fork (.le (.c 208) (.v 1)) R387 .done)

def R389 : Pt := (.fork (.le (.c 207) (.v 1)) R388 .done)

def R390 : Pt := (.fork (.le (.c 206) (.v 1)) R389 .done)

def R391 : Pt := (.fork (.le (.c 205) (.v 1)) R390 .done)

def R392 : Pt := (.fork (.le (.c 204) (.v 1)) R391 .done)

def R393 : Pt := (.fork (.le (.c 203) (.v 1)) R392 .done)

def R394 : Pt := (.fork (.le (.c 202) (.v 1)) R393 .done)

def R395 : Pt := (.fork (.le (.c 201) (.v 1)) R394 .done)

def R396 : Pt := (.fork (.le (.c 200) (.v 1)) R395 .done)

def R397 : Pt := (.fork (.le (.c 199) (.v 1)) R396 .done)

def R398 : Pt := (.fork (.le (.c 198) (.v 1)) R397 .done)

def R399 : Pt := (.fork (.le (.c 197) (.v 1)) R398 .done)

def R400 : Pt := (.fork (.le (.c 196) (.v 1)) R399 .done)

def R401 : Pt := (.fork (.le (.c 195) (.v 1)) R400 .done)

def R402 : Pt := (.fork (.le (.c 194) (.v 1)) R401 .done)

def R403 : Pt := (.fork (.le (.c 193) (.v 1)) R402 .done)

def R404 : Pt := (.fork (.le (.c 192) (.v 1)) R403 .done)

def R405 : Pt := (.fork (.le (.c 191) (.v 1)) R404 .done)

def R406 : Pt := (.fork (.le (.c 190) (.v 1)) R405 .done)

def R407 : Pt := (.fork (.le (.c 189) (.v 1)) R406 .done)

def R408 : Pt := (.fork (.le (.c 188) (.v 1)) R407 .done)

def R409 : Pt := (.fork (.le (.c 187) (.v 1)) R408 .done)

def R410 : Pt := (.fork (.le (.c 186) (.v 1)) R409 .done)

def R411 : Pt := (.fork (.le (.c 185) (.v 1)) R410 .done)

def R412 : Pt := (.fork (.le (.c 184) (.v 1)) R411 .done)

def R413 : Pt := (.fork (.le (.c 183) (.v 1)) R412 .done)

def R414 : Pt := (.fork (.le (.c 182) (.v 1)) R413 .done)

def R415 : Pt := (.fork (.le (.c 181) (.v 1)) R414 .done)

def R416 : Pt := (.fork (.le (.c 180) (.v 1)) R415 .done)

def R417 : Pt := (.fork (.le (.c 179) (.v 1)) R416 .done)

def R418 : Pt := (.fork (.le (.c 178) (.v 1)) R417 .done)

def R419 : Pt := (.fork (.le (.c 177) (.v 1)) R418 .done)

def R420 : Pt := (.fork (.le (.c 176) (.v 1)) R419 .done)

def R421 : Pt := (.fork (.le (.c 175) (.v 1)) R420 .done)

def R422 : Pt := (.fork (.le (.c 174) (.v 1)) R421 .done)

def R423 : Pt := (.fork (.le (.c 173) (.v 1)) R422 .done)

def R424 : Pt := (.fork (.le (.c 172) (.v 1)) R423 .done)

def R425 : Pt := (.fork (.le (.c 171) (.v 1)) R424 .done)

def R426 : Pt := (.fork (.le (.c 170) (.v 1)) R425 .done)

def R427 : Pt := (.fork (.le (.c 169) (.v 1)) R426 .done)

def R428 : Pt := (.fork (.le (.c 168) (.v 1)) R427 .done)

def R429 : Pt := (.fork (.le (.c 167) (.v 1)) R428 .done)

def R430 : Pt := (.fork (.le (.c 166) (.v 1)) R429 .done)

def R431 : Pt := (.fork (.le (.c 165) (.v 1)) R430 .done)

def R432 : Pt := (.fork (.le (.c 164) (.v 1)) R431 .done)

def R433 : Pt := (.fork (.le (.c 163) (.v 1)) R432 .done)

def R434 : Pt := (.fork (.le (.c 162) (.v 1)) R433 .done)

def R435 : Pt := (.fork (.le (.c 161) (.v 1)) R434 .done)

def R436 : Pt := (.fork (.le (.c 160) (.v 1)) R435 .done)

def R437 : Pt := (.fork (.le (.c 159) (.v 1)) R436 .done)

def R438 : Pt := (.fork (.le (.c 158) (.v 1)) R437 .done)

def R439 : Pt := (.fork (.le (.c 157) (.v 1)) R438 .done)

def R440 : Pt := (.fork (.le (.c 156) (.v 1)) R439 .done)

def R441 : Pt := (.fork (.le (.c 155) (.v 1)) R440 .done)

def R442 : Pt := (.fork (.le (.c 154) (.v 1)) R441 .done)

def R443 : Pt := (.fork (.le (.c 153) (.v 1)) R442 .done)

def R444 : Pt := (.fork (.le (.c 152) (.v 1)) R443 .done)

def R445 : Pt := (.fork (.le (.c 151) (.v 1)) R444 .done)

def R446 : Pt := (.fork (.le (.c 150) (.v 1)) R445 .done)

def R447 : Pt := (.fork (.le (.c 149) (.v 1)) R446 .done)

def R448 : Pt := (.fork (.le (.c 148) (.v 1)) R447 .done)

def R449 : Pt := (.fork (.le (.c 147) (.v 1)) R448 .done)

def R450 : Pt := (.fork (.le (.c 146) (.v 1)) R449 .done)

def R451 : Pt := (.fork (.le (.c 145) (.v 1)) R450 .done)

def R452 : Pt := (.fork (.le (.c 144) (.v 1)) R451 .done)

def R453 : Pt := (.fork (.le (.c 143) (.v 1)) R452 .done)

def R454 : Pt := (.fork (.le (.c 142) (.v 1)) R453 .done)

def R455 : Pt := (.fork (.le (.c 141) (.v 1)) R454 .done)

def R456 : Pt := (.fork (.le (.c 140) (.v 1)) R455 .done)

def R457 : Pt := (.fork (.le (.c 139) (.v 1)) R456 .done)

def R458 : Pt := (.fork (.le (.c 138) (.v 1)) R457 .done)

def R459 : Pt := (.fork (.le (.c 137) (.v 1)) R458 .done)

def R460 : Pt := (.fork (.le (.c 136) (.v 1)) R459 .done)

def R461 : Pt := (.fork (.le (.c 135) (.v 1)) R460 .done)

def R462 : Pt := (.fork (.le (.c 134) (.v 1)) R461 .done)

def R463 : Pt := (.fork (.le (.c 133) (.v 1)) R462 .done)

def R464 : Pt := (.fork (.le (.c 132) (.v 1)) R463 .done)

def R465 : Pt := (.fork (.le (.c 131) (.v 1)) R464 .done)

def R466 : Pt := (.fork (.le (.c 130) (.v 1)) R465 .done)

def R467 : Pt := (.fork (.le (.c 129) (.v 1)) R466 .done)

def R468 : Pt := (.new (.wr .u32 (.a 0 (127))) (.new (.sh .shr .u32 (.v 51) (.c 24)) (.is (.wr .u8 (.v 52)) (.v 52) (.new (.sh .shr .u32 (.v 51) (.c 16)) (.new (.wr .u8 (.v 53)) (.new (.sh .shr .u32 (.v 51) (.c 8)) (.new (.wr .u8 (.v 55)) (.new (.wr .u8 (.v 51)) (.fork (.le (.c 128) (.v 1)) R467 .done)))))))))

def R469 : Pt := (.fork (.le (.c 127) (.v 1)) R468 .done)

def R470 : Pt := (.fork (.le (.c 126) (.v 1)) R469 .done)

def R471 : Pt := (.fork (.le (.c 125) (.v 1)) R470 .done)

def R472 : Pt := (.fork (.le (.c 124) (.v 1)) R471 .done)

def R473 : Pt := (.fork (.le (.c 123) (.v 1)) R472 .done)

def R474 : Pt := (.fork (.le (.c 122) (.v 1)) R473 .done)

def R475 : Pt := (.fork (.le (.c 121) (.v 1)) R474 .done)

def R476 : Pt := (.fork (.le (.c 120) (.v 1)) R475 .done)

def R477 : Pt := (.fork (.le (.c 119) (.v 1)) R476 .done)

def R478 : Pt := (.fork (.le (.c 118) (.v 1)) R477 .done)

def R479 : Pt := (.fork (.le (.c 117) (.v 1)) R478 .done)

def R480 : Pt := (.fork (.le (.c 116) (.v 1)) R479 .done)

def R481 : Pt := (.fork (.le (.c 115) (.v 1)) R480 .done)

def R482 : Pt := (.fork (.le (.c 114) (.v 1)) R481 .done)

def R483 : Pt := (.fork (.le (.c 113) (.v 1)) R482 .done)

def R484 : Pt := (.fork (.le (.c 112) (.v 1)) R483 .done)

def R485 : Pt := (.fork (.le (.c 111) (.v 1)) R484 .done)

def R486 : Pt := (.fork (.le (.c 110) (.v 1)) R485 .done)

def R487 : Pt := (.fork (.le (.c 109) (.v 1)) R486 .done)

def R488 : Pt := (.fork (.le (.c 108) (.v 1)) R487 .done)

def R489 : Pt := (.fork (.le (.c 107) (.v 1)) R488 .done)

def R490 : Pt := (.fork (.le (.c 106) (.v 1)) R489 .done)

def R491 : Pt := (.fork (.le (.c 105) (.v 1)) R490 .done)

def R492 : Pt := (.fork (.le (.c 104) (.v 1)) R491 .done)

def R493 : Pt := (.fork (.le (.c 103) (.v 1)) R492 .done)

def R494 : Pt := (.fork (.le (.c 102) (.v 1)) R493 .done)

def R495 : Pt := (.fork (.le (.c 101) (.v 1)) R494 .done)

def R496 : Pt := (.fork (.le (.c 100) (.v 1)) R495 .done)

def R497 : Pt := (.fork (.le (.c 99) (.v 1)) R496 .done)

def R498 : Pt := (.fork (.le (.c 98) (.v 1)) R497 .done)

def R499 : Pt := (.fork (.le (.c 97) (.v 1)) R498 .done)

def R500 : Pt := (.fork (.le (.c 96) (.v 1)) R499 .done)

def R501 : Pt := (.fork (.le (.c 95) (.v 1)) R500 .done)

def R502 : Pt := (.fork (.le (.c 94) (.v 1)) R501 .done)

def R503 : Pt := (.fork (.le (.c 93) (.v 1)) R502 .done)

def R504 : Pt := (.fork (.le (.c 92) (.v 1)) R503 .done)

def R505 : Pt := (.fork (.le (.c 91) (.v 1)) R504 .done)

def R506 : Pt := (.fork (.le (.c 90) (.v 1)) R505 .done)

def R507 : Pt := (.fork (.le (.c 89) (.v 1)) R506 .done)

def R508 : Pt := (.fork (.le (.c 88) (.v 1)) R507 .done)

def R509 : Pt := (.fork (.le (.c 87) (.v 1)) R508 .done)

def R510 : Pt := (.fork (.le (.c 86) (.v 1)) R509 .done)

def R511 : Pt := (.fork (.le (.c 85) (.v 1)) R510 .done)

def R512 : Pt := (.fork (.le (.c 84) (.v 1)) R511 .done)

def R513 : Pt := (.fork (.le (.c 83) (.v 1)) R512 .done)

def R514 : Pt := (.fork (.le (.c 82) (.v 1)) R513 .done)

def R515 : Pt := (.fork (.le (.c 81) (.v 1)) R514 .done)

def R516 : Pt := (.fork (.le (.c 80) (.v 1)) R515 .done)

def R517 : Pt := (.fork (.le (.c 79) (.v 1)) R516 .done)

def R518 : Pt := (.fork (.le (.c 78) (.v 1)) R517 .done)

def R519 : Pt := (.fork (.le (.c 77) (.v 1)) R518 .done)

def R520 : Pt := (.fork (.le (.c 76) (.v 1)) R519 .done)

def R521 : Pt := (.fork (.le (.c 75) (.v 1)) R520 .done)

def R522 : Pt := (.fork (.le (.c 74) (.v 1)) R521 .done)

def R523 : Pt := (.fork (.le (.c 73) (.v 1)) R522 .done)

def R524 : Pt := (.fork (.le (.c 72) (.v 1)) R523 .done)

def R525 : Pt := (.fork (.le (.c 71) (.v 1)) R524 .done)

def R526 : Pt := (.fork (.le (.c 70) (.v 1)) R525 .done)

def R527 : Pt := (.fork (.le (.c 69) (.v 1)) R526 .done)

def R528 : Pt := (.fork (.le (.c 68) (.v 1)) R527 .done)

def R529 : Pt := (.fork (.le (.c 67) (.v 1)) R528 .done)

def R530 : Pt := (.fork (.le (.c 66) (.v 1)) R529 .done)

def R531 : Pt := (.fork (.le (.c 65) (.v 1)) R530 .done)

def R532 : Pt := (.new (.wr .u32 (.a 0 (63))) (.new (.sh .shr .u32 (.v 44) (.c 24)) (.is (.wr .u8 (.v 45)) (.v 45) (.new (.sh .shr .u32 (.v 44) (.c 16)) (.new (.wr .u8 (.v 46)) (.new (.sh .shr .u32 (.v 44) (.c 8)) (.new (.wr .u8 (.v 48)) (.new (.wr .u8 (.v 44)) (.fork (.le (.c 64) (.v 1)) R531 .done)))))))))

def R533 : Pt := (.fork (.le (.c 63) (.v 1)) R532 .done)

def R534 : Pt := (.fork (.le (.c 62) (.v 1)) R533 .done)

def R535 : Pt := (.fork (.le (.c 61) (.v 1)) R534 .done)

def R536 : Pt := (.fork (.le (.c 60) (.v 1)) R535 .done)

def R537 : Pt := (.fork (.le (.c 59) (.v 1)) R536 .done)

def R538 : Pt := (.fork (.le (.c 58) (.v 1)) R537 .done)

def R539 : Pt := (.fork (.le (.c 57) (.v 1)) R538 .done)

def R540 : Pt := (.fork (.le (.c 56) (.v 1)) R539 .done)

def R541 : Pt := (.fork (.le (.c 55) (.v 1)) R540 .done)

def R542 : Pt := (.fork (.le (.c 54) (.v 1)) R541 .done)

def R543 : Pt := (.fork (.le (.c 53) (.v 1)) R542 .done)

def R544 : Pt := (.fork (.le (.c 52) (.v 1)) R543 .done)

def R545 : Pt := (.fork (.le (.c 51) (.v 1)) R544 .done)

def R546 : Pt := (.fork (.le (.c 50) (.v 1)) R545 .done)

def R547 : Pt := (.fork (.le (.c 49) (.v 1)) R546 .done)

def R548 : Pt := (.fork (.le (.c 48) (.v 1)) R547 .done)

def R549 : Pt := (.fork (.le (.c 47) (.v 1)) R548 .done)

def R550 : Pt := (.fork (.le (.c 46) (.v 1)) R549 .done)

def R551 : Pt := (.fork (.le (.c 45) (.v 1)) R550 .done)

def R552 : Pt := (.fork (.le (.c 44) (.v 1)) R551 .done)

def R553 : Pt := (.fork (.le (.c 43) (.v 1)) R552 .done)

def R554 : Pt := (.fork (.le (.c 42) (.v 1)) R553 .done)

def R555 : Pt := (.fork (.le (.c 41) (.v 1)) R554 .done)

def R556 : Pt := (.fork (.le (.c 40) (.v 1)) R555 .done)

def R557 : Pt := (.fork (.le (.c 39) (.v 1)) R556 .done)

def R558 : Pt := (.fork (.le (.c 38) (.v 1)) R557 .done)

def R559 : Pt := (.fork (.le (.c 37) (.v 1)) R558 .done)

def R560 : Pt := (.fork (.le (.c 36) (.v 1)) R559 .done)

def R561 : Pt := (.fork (.le (.c 35) (.v 1)) R560 .done)

def R562 : Pt := (.fork (.le (.c 34) (.v 1)) R561 .done)

def R563 : Pt := (.fork (.le (.c 33) (.v 1)) R562 .done)

def R564 : Pt := (.new (.wr .u32 (.a 0 (31))) (.new (.sh .shr .u32 (.v 37) (.c 24)) (.is (.wr .u8 (.v 38)) (.v 38) (.new (.sh .shr .u32 (.v 37) (.c 16)) (.new (.wr .u8 (.v 39)) (.new (.sh .shr .u32 (.v 37) (.c 8)) (.new (.wr .u8 (.v 41)) (.new (.wr .u8 (.v 37)) (.fork (.le (.c 32) (.v 1)) R563 .done)))))))))

def R565 : Pt := (.fork (.le (.c 31) (.v 1)) R564 .done)

def R566 : Pt := (.fork (.le (.c 30) (.v 1)) R565 .done)

def R567 : Pt := (.fork (.le (.c 29) (.v 1)) R566 .done)

def R568 : Pt := (.fork (.le (.c 28) (.v 1)) R567 .done)

def R569 : Pt := (.fork (.le (.c 27) (.v 1)) R568 .done)

def R570 : Pt := (.fork (.le (.c 26) (.v 1)) R569 .done)

def R571 : Pt := (.fork (.le (.c 25) (.v 1)) R570 .done)

def R572 : Pt := (.fork (.le (.c 24) (.v 1)) R571 .done)

def R573 : Pt := (.fork (.le (.c 23) (.v 1)) R572 .done)

def R574 : Pt := (.fork (.le (.c 22) (.v 1)) R573 .done)

def R575 : Pt := (.fork (.le (.c 21) (.v 1)) R574 .done)

def R576 : Pt := (.fork (.le (.c 20) (.v 1)) R575 .done)

def R577 : Pt := (.fork (.le (.c 19) (.v 1)) R576 .done)

def R578 : Pt := (.fork (.le (.c 18) (.v 1)) R577 .done)

def R579 : Pt := (.fork (.le (.c 17) (.v 1)) R578 .done)

def R580 : Pt := (.new (.wr .u32 (.a 0 (15))) (.new (.sh .shr .u32 (.v 30) (.c 24)) (.is (.wr .u8 (.v 31)) (.v 31) (.new (.sh .shr .u32 (.v 30) (.c 16)) (.new (.wr .u8 (.v 32)) (.new (.sh .shr .u32 (.v 30) (.c 8)) (.new (.wr .u8 (.v 34)) (.new (.wr .u8 (.v 30)) (.fork (.le (.c 16) (.v 1)) R579 .done)))))))))

def R581 : Pt := (.fork (.le (.c 15) (.v 1)) R580 .done)

def R582 : Pt := (.fork (.le (.c 14) (.v 1)) R581 .done)

def R583 : Pt := (.fork (.le (.c 13) (.v 1)) R582 .done)

def R584 : Pt := (.fork (.le (.c 12) (.v 1)) R583 .done)

def R585 : Pt := (.fork (.le (.c 11) (.v 1)) R584 .done)

def R586 : Pt := (.fork (.le (.c 10) (.v 1)) R585 .done)

def R587 : Pt := (.fork (.le (.c 9) (.v 1)) R586 .done)

def R588 : Pt := (.new (.wr .u32 (.a 0 (7))) (.new (.sh .shr .u32 (.v 23) (.c 24)) (.is (.wr .u8 (.v 24)) (.v 24) (.new (.sh .shr .u32 (.v 23) (.c 16)) (.new (.wr .u8 (.v 25)) (.new (.sh .shr .u32 (.v 23) (.c 8)) (.new (.wr .u8 (.v 27)) (.new (.wr .u8 (.v 23)) (.fork (.le (.c 8) (.v 1)) R587 .done)))))))))

def R589 : Pt := (.fork (.le (.c 7) (.v 1)) R588 .done)

def R590 : Pt := (.fork (.le (.c 6) (.v 1)) R589 .done)

def R591 : Pt := (.fork (.le (.c 5) (.v 1)) R590 .done)

def R592 : Pt := (.new (.wr .u32 (.a 0 (3))) (.new (.sh .shr .u32 (.v 16) (.c 24)) (.is (.wr .u8 (.v 17)) (.v 17) (.new (.sh .shr .u32 (.v 16) (.c 16)) (.new (.wr .u8 (.v 18)) (.new (.sh .shr .u32 (.v 16) (.c 8)) (.new (.wr .u8 (.v 20)) (.new (.wr .u8 (.v 16)) (.fork (.le (.c 4) (.v 1)) R591 .done)))))))))

def R593 : Pt := (.fork (.le (.c 3) (.v 1)) R592 .done)

def R594 : Pt := (.new (.wr .u32 (.a 0 (1))) (.new (.sh .shr .u32 (.v 9) (.c 24)) (.is (.wr .u8 (.v 10)) (.v 10) (.new (.sh .shr .u32 (.v 9) (.c 16)) (.new (.wr .u8 (.v 11)) (.new (.sh .shr .u32 (.v 9) (.c 8)) (.new (.wr .u8 (.v 13)) (.new (.wr .u8 (.v 9)) (.fork (.le (.c 2) (.v 1)) R593 .done)))))))))

def R595 : Pt := (.new (.wr .u32 (.v 0)) (.new (.sh .shr .u32 (.v 2) (.c 24)) (.is (.wr .u8 (.v 3)) (.v 3) (.new (.sh .shr .u32 (.v 2) (.c 16)) (.new (.wr .u8 (.v 4)) (.new (.sh .shr .u32 (.v 2) (.c 8)) (.new (.wr .u8 (.v 6)) (.new (.wr .u8 (.v 2)) (.fork (.le (.c 1) (.v 1)) R594 .done)))))))))

def R596 : Pt := (.fork (.le (.c 597) (.v 1)) (.fork (.le (.c 598) (.v 1)) (.fork (.le (.c 599) (.v 1)) (.new (.ib .add .i64 (.v 0) (.c 599)) (.fork (.le (.c 600) (.v 1)) (.new (.ib .add .i64 (.v 0) (.c 600)) .done) .done)) .done) .done) .done)

def R597 : Pt := (.fork (.le (.c 596) (.v 1)) R596 .done)

def R598 : Pt := (.fork (.le (.c 595) (.v 1)) R597 .done)

def R599 : Pt := (.fork (.le (.c 594) (.v 1)) R598 .done)

def R600 : Pt := (.fork (.le (.c 593) (.v 1)) R599 .done)

def R601 : Pt := (.fork (.le (.c 592) (.v 1)) R600 .done)

def R602 : Pt := (.fork (.le (.c 591) (.v 1)) R601 .done)

def R603 : Pt := (.fork (.le (.c 590) (.v 1)) R602 .done)

def R604 : Pt := (.fork (.le (.c 589) (.v 1)) R603 .done)

def R605 : Pt := (.fork (.le (.c 588) (.v 1)) R604 .done)

def R606 : Pt := (.fork (.le (.c 587) (.v 1)) R605 .done)

def R607 : Pt := (.fork (.le (.c 586) (.v 1)) R606 .done)

def R608 : Pt := (.fork (.le (.c 585) (.v 1)) R607 .done)

def R609 : Pt := (.fork (.le (.c 584) (.v 1)) R608 .done)

def R610 : Pt := (.fork (.le (.c 583) (.v 1)) R609 .done)

def R611 : Pt := (.fork (.le (.c 582) (.v 1)) R610 .done)

def R612 : Pt := (.fork (.le (.c 581) (.v 1)) R611 .done)

def R613 : Pt := (.fork (.le (.c 580) (.v 1)) R612 .done)

def R614 : Pt := (.fork (.le (.c 579) (.v 1)) R613 .done)

def R615 : Pt := (.fork (.le (.c 578) (.v 1)) R614 .done)

def R616 : Pt := (.fork (.le (.c 577) (.v 1)) R615 .done)

def R617 : Pt := (.fork (.le (.c 576) (.v 1)) R616 .done)

def R618 : Pt := (.fork (.le (.c 575) (.v 1)) R617 .done)

def R619 : Pt := (.fork (.le (.c 574) (.v 1)) R618 .done)

def R620 : Pt := (.fork (.le (.c 573) (.v 1)) R619 .done)

def R621 : Pt := (.fork (.le (.c 572) (.v 1)) R620 .done)

def R622 : Pt := (.fork (.le (.c 571) (.v 1)) R621 .done)

def R623 : Pt := (.fork (.le (.c 570) (.v 1)) R622 .done)

def R624 : Pt := (.fork (.le (.c 569) (.v 1)) R623 .done)

def R625 : Pt := (.fork (.le (.c 568) (.v 1)) R624 .done)

def R626 : Pt := (.fork (.le (.c 567) (.v 1)) R625 .done)

def R627 : Pt := (.fork (.le (.c 566) (.v 1)) R626 .done)

def R628 : Pt := (.fork (.le (.c 565) (.v 1)) R627 .done)

def R629 : Pt := (.fork (.le (.c 564) (.v 1)) R628 .done)

def R630 : Pt := (.fork (.le (.c 563) (.v 1)) R629 .done)

def R631 : Pt := (.fork (.le (.c 562) (.v 1)) R630 .done)

def R632 : Pt := (.fork (.le (.c 561) (.v 1)) R631 .done)

def R633 : Pt := (.fork (.le (.c 560) (.v 1)) R632 .done)

def R634 : Pt := (.fork (.le (.c 559) (.v 1)) R633 .done)

def R635 : Pt := (.fork (.le (.c 558) (.v 1)) R634 .done)

def R636 : Pt := (.fork (.le (.c 557) (.v 1)) R635 .done)

def R637 : Pt := (.fork (.le (.c 556) (.v 1)) R636 .done)

def R638 : Pt := (.fork (.le (.c 555) (.v 1)) R637 .done)

def R639 : Pt := (.fork (.le (.c 554) (.v 1)) R638 .done)

def R640 : Pt := (.fork (.le (.c 553) (.v 1)) R639 .done)

def R641 : Pt := (.fork (.le (.c 552) (.v 1)) R640 .done)

def R642 : Pt := (.fork (.le (.c 551) (.v 1)) R641 .done)

def R643 : Pt := (.fork (.le (.c 550) (.v 1)) R642 .done)

def R644 : Pt := (.fork (.le (.c 549) (.v 1)) R643 .done)

def R645 : Pt := (.fork (.le (.c 548) (.v 1)) R644 .done)

def R646 : Pt := (.fork (.le (.c 547) (.v 1)) R645 .done)

def R647 : Pt := (.fork (.le (.c 546) (.v 1)) R646 .done)

def R648 : Pt := (.fork (.le (.c 545) (.v 1)) R647 .done)

def R649 : Pt := (.fork (.le (.c 544) (.v 1)) R648 .done)

def R650 : Pt := (.fork (.le (.c 543) (.v 1)) R649 .done)

def R651 : Pt := (.fork (.le (.c 542) (.v 1)) R650 .done)

def R652 : Pt := (.fork (.le (.c 541) (.v 1)) R651 .done)

def R653 : Pt := (.fork (.le (.c 540) (.v 1)) R652 .done)

def R654 : Pt := (.fork (.le (.c 539) (.v 1)) R653 .done)

def R655 : Pt := (.fork (.le (.c 538) (.v 1)) R654 .done)

def R656 : Pt := (.fork (.le (.c 537) (.v 1)) R655 .done)

def R657 : Pt := (.fork (.le (.c 536) (.v 1)) R656 .done)

def R658 : Pt := (.fork (.le (.c 535) (.v 1)) R657 .done)

def R659 : Pt := (.fork (.le (.c 534) (.v 1)) R658 .done)

def R660 : Pt := (.fork (.le (.c 533) (.v 1)) R659 .done)

def R661 : Pt := (.fork (.le (.c 532) (.v 1)) R660 .done)

def R662 : Pt := (.fork (.le (.c 531) (.v 1)) R661 .done)

def R663 : Pt := (.fork (.le (.c 530) (.v 1)) R662 .done)

def R664 : Pt := (.fork (.le (.c 529) (.v 1)) R663 .done)

def R665 : Pt := (.fork (.le (.c 528) (.v 1)) R664 .done)

def R666 : Pt := (.fork (.le (.c 527) (.v 1)) R665 .done)

def R667 : Pt := (.fork (.le (.c 526) (.v 1)) R666 .done)

def R668 : Pt := (.fork (.le (.c 525) (.v 1)) R667 .done)

def R669 : Pt := (.fork (.le (.c 524) (.v 1)) R668 .done)

def R670 : Pt := (.fork (.le (.c 523) (.v 1)) R669 .done)

def R671 : Pt := (.fork (.le (.c 522) (.v 1)) R670 .done)

def R672 : Pt := (.fork (.le (.c 521) (.v 1)) R671 .done)

def R673 : Pt := (.fork (.le (.c 520) (.v 1)) R672 .done)

def R674 : Pt := (.fork (.le (.c 519) (.v 1)) R673 .done)

def R675 : Pt := (.fork (.le (.c 518) (.v 1)) R674 .done)

def R676 : Pt := (.fork (.le (.c 517) (.v 1)) R675 .done)

def R677 : Pt := (.fork (.le (.c 516) (.v 1)) R676 .done)

def R678 : Pt := (.fork (.le (.c 515) (.v 1)) R677 .done)

def R679 : Pt := (.fork (.le (.c 514) (.v 1)) R678 .done)

def R680 : Pt := (.fork (.le (.c 513) (.v 1)) R679 .done)

def R681 : Pt := (.fork (.le (.c 512) (.v 1)) R680 .done)

def R682 : Pt := (.fork (.le (.c 511) (.v 1)) R681 .done)

def R683 : Pt := (.fork (.le (.c 510) (.v 1)) R682 .done)

def R684 : Pt := (.fork (.le (.c 509) (.v 1)) R683 .done)

def R685 : Pt := (.fork (.le (.c 508) (.v 1)) R684 .done)

def R686 : Pt := (.fork (.le (.c 507) (.v 1)) R685 .done)

def R687 : Pt := (.fork (.le (.c 506) (.v 1)) R686 .done)

def R688 : Pt := (.fork (.le (.c 505) (.v 1)) R687 .done)

def R689 : Pt := (.fork (.le (.c 504) (.v 1)) R688 .done)

def R690 : Pt := (.fork (.le (.c 503) (.v 1)) R689 .done)

def R691 : Pt := (.fork (.le (.c 502) (.v 1)) R690 .done)

def R692 : Pt := (.fork (.le (.c 501) (.v 1)) R691 .done)

def R693 : Pt := (.fork (.le (.c 500) (.v 1)) R692 .done)

def R694 : Pt := (.fork (.le (.c 499) (.v 1)) R693 .done)

def R695 : Pt := (.fork (.le (.c 498) (.v 1)) R694 .done)

def R696 : Pt := (.fork (.le (.c 497) (.v 1)) R695 .done)

def R697 : Pt := (.fork (.le (.c 496) (.v 1)) R696 .done)

def R698 : Pt := (.fork (.le (.c 495) (.v 1)) R697 .done)

def R699 : Pt := (.fork (.le (.c 494) (.v 1)) R698 .done)

def R700 : Pt := (.fork (.le (.c 493) (.v 1)) R699 .done)

def R701 : Pt := (.fork (.le (.c 492) (.v 1)) R700 .done)

def R702 : Pt := (.fork (.le (.c 491) (.v 1)) R701 .done)

def R703 : Pt := (.fork (.le (.c 490) (.v 1)) R702 .done)

def R704 : Pt := (.fork (.le (.c 489) (.v 1)) R703 .done)

def R705 : Pt := (.fork (.le (.c 488) (.v 1)) R704 .done)

def R706 : Pt := (.fork (.le (.c 487) (.v 1)) R705 .done)

def R707 : Pt := (.fork (.le (.c 486) (.v 1)) R706 .done)

def R708 : Pt := (.fork (.le (.c 485) (.v 1)) R707 .done)

def R709 : Pt := (.fork (.le (.c 484) (.v 1)) R708 .done)

def R710 : Pt := (.fork (.le (.c 483) (.v 1)) R709 .done)

def R711 : Pt := (.fork (.le (.c 482) (.v 1)) R710 .done)

def R712 : Pt := (.fork (.le (.c 481) (.v 1)) R711 .done)

def R713 : Pt := (.fork (.le (.c 480) (.v 1)) R712 .done)

def R714 : Pt := (.fork (.le (.c 479) (.v 1)) R713 .done)

def R715 : Pt := (.fork (.le (.c 478) (.v 1)) R714 .done)

def R716 : Pt := (.fork (.le (.c 477) (.v 1)) R715 .done)

def R717 : Pt := (.fork (.le (.c 476) (.v 1)) R716 .done)

def R718 : Pt := (.fork (.le (.c 475) (.v 1)) R717 .done)

def R719 : Pt := (.fork (.le (.c 474) (.v 1)) R718 .done)

def R720 : Pt := (.fork (.le (.c 473) (.v 1)) R719 .done)

def R721 : Pt := (.fork (.le (.c 472) (.v 1)) R720 .done)

def R722 : Pt := (.fork (.le (.c 471) (.v 1)) R721 .done)

def R723 : Pt := (.fork (.le (.c 470) (.v 1)) R722 .done)

def R724 : Pt := (.fork (.le (.c 469) (.v 1)) R723 .done)

def R725 : Pt := (.fork (.le (.c 468) (.v 1)) R724 .done)

def R726 : Pt := (.fork (.le (.c 467) (.v 1)) R725 .done)

def R727 : Pt := (.fork (.le (.c 466) (.v 1)) R726 .done)

def R728 : Pt := (.fork (.le (.c 465) (.v 1)) R727 .done)

def R729 : Pt := (.fork (.le (.c 464) (.v 1)) R728 .done)

def R730 : Pt := (.fork (.le (.c 463) (.v 1)) R729 .done)

def R731 : Pt := (.fork (.le (.c 462) (.v 1)) R730 .done)

def R732 : Pt := (.fork (.le (.c 461) (.v 1)) R731 .done)

def R733 : Pt := (.fork (.le (.c 460) (.v 1)) R732 .done)

def R734 : Pt := (.fork (.le (.c 459) (.v 1)) R733 .done)

def R735 : Pt := (.fork (.le (.c 458) (.v 1)) R734 .done)

def R736 : Pt := (.fork (.le (.c 457) (.v 1)) R735 .done)

def R737 : Pt := (.fork (.le (.c 456) (.v 1)) R736 .done)

def R738 : Pt := (.fork (.le (.c 455) (.v 1)) R737 .done)

def R739 : Pt := (.fork (.le (.c 454) (.v 1)) R738 .done)

def R740 : Pt := (.fork (.le (.c 453) (.v 1)) R739 .done)

def R741 : Pt := (.fork (.le (.c 452) (.v 1)) R740 .done)

def R742 : Pt := (.fork (.le (.c 451) (.v 1)) R741 .done)

def R743 : Pt := (.fork (.le (.c 450) (.v 1)) R742 .done)

def R744 : Pt := (.fork (.le (.c 449) (.v 1)) R743 .done)

def R745 : Pt := (.fork (.le (.c 448) (.v 1)) R744 .done)

def R746 : Pt := (.fork (.le (.c 447) (.v 1)) R745 .done)

def R747 : Pt := (.fork (.le (.c 446) (.v 1)) R746 .done)

def R748 : Pt := (.fork (.le (.c 445) (.v 1)) R747 .done)

def R749 : Pt := (.fork (.le (.c 444) (.v 1)) R748 .done)

def R750 : Pt := (.fork (.le (.c 443) (.v 1)) R749 .done)

def R751 : Pt := (.fork (.le (.c 442) (.v 1)) R750 .done)

def R752 : Pt := (.fork (.le (.c 441) (.v 1)) R751 .done)

def R753 : Pt := (.fork (.le (.c 440) (.v 1)) R752 .done)

def R754 : Pt := (.fork (.le (.c 439) (.v 1)) R753 .done)

def R755 : Pt := (.fork (.le (.c 438) (.v 1)) R754 .done)

def R756 : Pt := (.fork (.le (.c 437) (.v 1)) R755 .done)

def R757 : Pt := (.fork (.le (.c 436) (.v 1)) R756 .done)

def R758 : Pt := (.fork (.le (.c 435) (.v 1)) R757 .done)

def R759 : Pt := (.fork (.le (.c 434) (.v 1)) R758 .done)

def R760 : Pt := (.fork (.le (.c 433) (.v 1)) R759 .done)

def R761 : Pt := (.fork (.le (.c 432) (.v 1)) R760 .done)

def R762 : Pt := (.fork (.le (.c 431) (.v 1)) R761 .done)

def R763 : Pt := (.fork (.le (.c 430) (.v 1)) R762 .done)

def R764 : Pt := (.fork (.le (.c 429) (.v 1)) R763 .done)

def R765 : Pt := (.fork (.le (.c 428) (.v 1)) R764 .done)

def R766 : Pt := (.fork (.le (.c 427) (.v 1)) R765 .done)

def R767 : Pt := (.fork (.le (.c 426) (.v 1)) R766 .done)

def R768 : Pt := (.fork (.le (.c 425) (.v 1)) R767 .done)

def R769 : Pt := (.fork (.le (.c 424) (.v 1)) R768 .done)

def R770 : Pt := (.fork (.le (.c 423) (.v 1)) R769 .done)

def R771 : Pt := (.fork (.le (.c 422) (.v 1)) R770 .done)

def R772 : Pt := (.fork (.le (.c 421) (.v 1)) R771 .done)

def R773 : Pt := (.fork (.le (.c 420) (.v 1)) R772 .done)

def R774 : Pt := (.fork (.le (.c 419) (.v 1)) R773 .done)

def R775 : Pt := (.fork (.le (.c 418) (.v 1)) R774 .done)

def R776 : Pt := (.fork (.le (.c 417) (.v 1)) R775 .done)

def R777 : Pt := (.fork (.le (.c 416) (.v 1)) R776 .done)

def R778 : Pt := (.fork (.le (.c 415) (.v 1)) R777 .done)

def R779 : Pt := (.fork (.le (.c 414) (.v 1)) R778 .done)

def R780 : Pt := (.fork (.le (.c 413) (.v 1)) R779 .done)

def R781 : Pt := (.fork (.le (.c 412) (.v 1)) R780 .done)

def R782 : Pt := (.fork (.le (.c 411) (.v 1)) R781 .done)

def R783 : Pt := (.fork (.le (.c 410) (.v 1)) R782 .done)

def R784 : Pt := (.fork (.le (.c 409) (.v 1)) R783 .done)

def R785 : Pt := (.fork (.le (.c 408) (.v 1)) R784 .done)

def R786 : Pt := (.fork (.le (.c 407) (.v 1)) R785 .done)

def R787 : Pt := (.fork (.le (.c 406) (.v 1)) R786 .done)

def R788 : Pt := (.fork (.le (.c 405) (.v 1)) R787 .done)

def R789 : Pt := (.fork (.le (.c 404) (.v 1)) R788 .done)

def R790 : Pt := (.fork (.le (.c 403) (.v 1)) R789 .done)

def R791 : Pt := (.fork (.le (.c 402) (.v 1)) R790 .done)

def R792 : Pt := (.fork (.le (.c 401) (.v 1)) R791 .done)

def R793 : Pt := (.fork (.le (.c 400) (.v 1)) R792 .done)

def R794 : Pt := (.fork (.le (.c 399) (.v 1)) R793 .done)

def R795 : Pt := (.fork (.le (.c 398) (.v 1)) R794 .done)

def R796 : Pt := (.fork (.le (.c 397) (.v 1)) R795 .done)

def R797 : Pt := (.fork (.le (.c 396) (.v 1)) R796 .done)

def R798 : Pt := (.fork (.le (.c 395) (.v 1)) R797 .done)

def R799 : Pt := (.fork (.le (.c 394) (.v 1)) R798 .done)

def R800 : Pt := (.fork (.le (.c 393) (.v 1)) R799 .done)

def R801 : Pt := (.fork (.le (.c 392) (.v 1)) R800 .done)

def R802 : Pt := (.fork (.le (.c 391) (.v 1)) R801 .done)

def R803 : Pt := (.fork (.le (.c 390) (.v 1)) R802 .done)

def R804 : Pt := (.fork (.le (.c 389) (.v 1)) R803 .done)

def R805 : Pt := (.fork (.le (.c 388) (.v 1)) R804 .done)

def R806 : Pt := (.fork (.le (.c 387) (.v 1)) R805 .done)

def R807 : Pt := (.fork (.le (.c 386) (.v 1)) R806 .done)

def R808 : Pt := (.fork (.le (.c 385) (.v 1)) R807 .done)

def R809 : Pt := (.fork (.le (.c 384) (.v 1)) R808 .done)

def R810 : Pt := (.fork (.le (.c 383) (.v 1)) R809 .done)

def R811 : Pt := (.fork (.le (.c 382) (.v 1)) R810 .done)

def R812 : Pt := (.fork (.le (.c 381) (.v 1)) R811 .done)

def R813 : Pt := (.fork (.le (.c 380) (.v 1)) R812 .done)

def R814 : Pt := (.fork (.le (.c 379) (.v 1)) R813 .done)

def R815 : Pt := (.fork (.le (.c 378) (.v 1)) R814 .done)

def R816 : Pt := (.fork (.le (.c 377) (.v 1)) R815 .done)

def R817 : Pt := (.fork (.le (.c 376) (.v 1)) R816 .done)

def R818 : Pt := (.fork (.le (.c 375) (.v 1)) R817 .done)

def R819 : Pt := (.fork (.le (.c 374) (.v 1)) R818 .done)

def R820 : Pt := (.fork (.le (.c 373) (.v 1)) R819 .done)

def R821 : Pt := (.fork (.le (.c 372) (.v 1)) R820 .done)

def R822 : Pt := (.fork (.le (.c 371) (.v 1)) R821 .done)

def R823 : Pt := (.fork (.le (.c 370) (.v 1)) R822 .done)

def R824 : Pt := (.fork (.le (.c 369) (.v 1)) R823 .done)

def R825 : Pt := (.fork (.le (.c 368) (.v 1)) R824 .done)

def R826 : Pt := (.fork (.le (.c 367) (.v 1)) R825 .done)

def R827 : Pt := (.fork (.le (.c 366) (.v 1)) R826 .done)

def R828 : Pt := (.fork (.le (.c 365) (.v 1)) R827 .done)

def R829 : Pt := (.fork (.le (.c 364) (.v 1)) R828 .done)

def R830 : Pt := (.fork (.le (.c 363) (.v 1)) R829 .done)

def R831 : Pt := (.fork (.le (.c 362) (.v 1)) R830 .done)

def R832 : Pt := (.fork (.le (.c 361) (.v 1)) R831 .done)

def R833 : Pt := (.fork (.le (.c 360) (.v 1)) R832 .done)

def R834 : Pt := (.fork (.le (.c 359) (.v 1)) R833 .done)

def R835 : Pt := (.fork (.le (.c 358) (.v 1)) R834 .done)

def R836 : Pt := (.fork (.le (.c 357) (.v 1)) R835 .done)

def R837 : Pt := (.fork (.le (.c 356) (.v 1)) R836 .done)

def R838 : Pt := (.fork (.le (.c 355) (.v 1)) R837 .done)

def R839 : Pt := (.fork (.le (.c 354) (.v 1)) R838 .done)

def R840 : Pt := (.fork (.le (.c 353) (.v 1)) R839 .done)

def R841 : Pt := (.fork (.le (.c 352) (.v 1)) R840 .done)

def R842 : Pt := (.fork (.le (.c 351) (.v 1)) R841 .done)

def R843 : Pt := (.fork (.le (.c 350) (.v 1)) R842 .done)

def R844 : Pt := (.fork (.le (.c 349) (.v 1)) R843 .done)

def R845 : Pt := (.fork (.le (.c 348) (.v 1)) R844 .done)

def R846 : Pt := (.fork (.le (.c 347) (.v 1)) R845 .done)

def R847 : Pt := (.fork (.le (.c 346) (.v 1)) R846 .done)

def R848 : Pt := (.fork (.le (.c 345) (.v 1)) R847 .done)

def R849 : Pt := (.fork (.le (.c 344) (.v 1)) R848 .done)

def R850 : Pt := (.fork (.le (.c 343) (.v 1)) R849 .done)

def R851 : Pt := (.fork (.le (.c 342) (.v 1)) R850 .done)

def R852 : Pt := (.fork (.le (.c 341) (.v 1)) R851 .done)

def R853 : Pt := (.fork (.le (.c 340) (.v 1)) R852 .done)

def R854 : Pt := (.fork (.le (.c 339) (.v 1)) R853 .done)

def R855 : Pt := (.fork (.le (.c 338) (.v 1)) R854 .done)

def R856 : Pt := (.fork (.le (.c 337) (.v 1)) R855 .done)

def R857 : Pt := (.fork (.le (.c 336) (.v 1)) R856 .done)

def R858 : Pt := (.fork (.le (.c 335) (.v 1)) R857 .done)

def R859 : Pt := (.fork (.le (.c 334) (.v 1)) R858 .done)

def R860 : Pt := (.fork (.le (.c 333) (.v 1)) R859 .done)

def R861 : Pt := (.fork (.le (.c 332) (.v 1)) R860 .done)

def R862 : Pt := (.fork (.le (.c 331) (.v 1)) R861 .done)

def R863 : Pt := (.fork (.le (.c 330) (.v 1)) R862 .done)

def R864 : Pt := (.fork (.le (.c 329) (.v 1)) R863 .done)

def R865 : Pt := (.fork (.le (.c 328) (.v 1)) R864 .done)

def R866 : Pt := (.fork (.le (.c 327) (.v 1)) R865 .done)

def R867 : Pt := (.fork (.le (.c 326) (.v 1)) R866 .done)

def R868 : Pt := (.fork (.le (.c 325) (.v 1)) R867 .done)

def R869 : Pt := (.fork (.le (.c 324) (.v 1)) R868 .done)

def R870 : Pt := (.fork (.le (.c 323) (.v 1)) R869 .done)

def R871 : Pt := (.fork (.le (.c 322) (.v 1)) R870 .done)

def R872 : Pt := (.fork (.le (.c 321) (.v 1)) R871 .done)

def R873 : Pt := (.fork (.le (.c 320) (.v 1)) R872 .done)

def R874 : Pt := (.fork (.le (.c 319) (.v 1)) R873 .done)

def R875 : Pt := (.fork (.le (.c 318) (.v 1)) R874 .done)

def R876 : Pt := (.fork (.le (.c 317) (.v 1)) R875 .done)

def R877 : Pt := (.fork (.le (.c 316) (.v 1)) R876 .done)

def R878 : Pt := (.fork (.le (.c 315) (.v 1)) R877 .done)

def R879 : Pt := (.fork (.le (.c 314) (.v 1)) R878 .done)

def R880 : Pt := (.fork (.le (.c 313) (.v 1)) R879 .done)

def R881 : Pt := (.fork (.le (.c 312) (.v 1)) R880 .done)

def R882 : Pt := (.fork (.le (.c 311) (.v 1)) R881 .done)

def R883 : Pt := (.fork (.le (.c 310) (.v 1)) R882 .done)

def R884 : Pt := (.fork (.le (.c 309) (.v 1)) R883 .done)

def R885 : Pt := (.fork (.le (.c 308) (.v 1)) R884 .done)

def R886 : Pt := (.fork (.le (.c 307) (.v 1)) R885 .done)

def R887 : Pt := (.fork (.le (.c 306) (.v 1)) R886 .done)

def R888 : Pt := (.fork (.le (.c 305) (.v 1)) R887 .done)

def R889 : Pt := (.fork (.le (.c 304) (.v 1)) R888 .done)

def R890 : Pt := (.fork (.le (.c 303) (.v 1)) R889 .done)

def R891 : Pt := (.fork (.le (.c 302) (.v 1)) R890 .done)

def R892 : Pt := (.fork (.le (.c 301) (.v 1)) R891 .done)

def R893 : Pt := (.fork (.le (.c 300) (.v 1)) R892 .done)

def R894 : Pt := (.fork (.le (.c 299) (.v 1)) R893 .done)

def R895 : Pt := (.fork (.le (.c 298) (.v 1)) R894 .done)

def R896 : Pt := (.fork (.le (.c 297) (.v 1)) R895 .done)

def R897 : Pt := (.fork (.le (.c 296) (.v 1)) R896 .done)

def R898 : Pt := (.fork (.le (.c 295) (.v 1)) R897 .done)

def R899 : Pt := (.fork (.le (.c 294) (.v 1)) R898 .done)

def R900 : Pt := (.fork (.le (.c 293) (.v 1)) R899 .done)

def R901 : Pt := (.fork (.le (.c 292) (.v 1)) R900 .done)

def R902 : Pt := (.fork (.le (.c 291) (.v 1)) R901 .done)

def R903 : Pt := (.fork (.le (.c 290) (.v 1)) R902 .done)

def R904 : Pt := (.fork (.le (.c 289) (.v 1)) R903 .done)

def R905 : Pt := (.fork (.le (.c 288) (.v 1)) R904 .done)

def R906 : Pt := (.fork (.le (.c 287) (.v 1)) R905 .done)

def R907 : Pt := (.fork (.le (.c 286) (.v 1)) R906 .done)

def R908 : Pt := (.fork (.le (.c 285) (.v 1)) R907 .done)

def R909 : Pt := (.fork (.le (.c 284) (.v 1)) R908 .done)

def R910 : Pt := (.fork (.le (.c 283) (.v 1)) R909 .done)

def R911 : Pt := (.fork (.le (.c 282) (.v 1)) R910 .done)

def R912 : Pt := (.fork (.le (.c 281) (.v 1)) R911 .done)

def R913 : Pt := (.fork (.le (.c 280) (.v 1)) R912 .done)

def R914 : Pt := (.fork (.le (.c 279) (.v 1)) R913 .done)

def R915 : Pt := (.fork (.le (.c 278) (.v 1)) R914 .done)

def R916 : Pt := (.fork (.le (.c 277) (.v 1)) R915 .done)

def R917 : Pt := (.fork (.le (.c 276) (.v 1)) R916 .done)

def R918 : Pt := (.fork (.le (.c 275) (.v 1)) R917 .done)

def R919 : Pt := (.fork (.le (.c 274) (.v 1)) R918 .done)

def R920 : Pt := (.fork (.le (.c 273) (.v 1)) R919 .done)

def R921 : Pt := (.fork (.le (.c 272) (.v 1)) R920 .done)

def R922 : Pt := (.fork (.le (.c 271) (.v 1)) R921 .done)

def R923 : Pt := (.fork (.le (.c 270) (.v 1)) R922 .done)

def R924 : Pt := (.fork (.le (.c 269) (.v 1)) R923 .done)

def R925 : Pt := (.fork (.le (.c 268) (.v 1)) R924 .done)

def R926 : Pt := (.fork (.le (.c 267) (.v 1)) R925 .done)

def R927 : Pt := (.fork (.le (.c 266) (.v 1)) R926 .done)

def R928 : Pt := (.fork (.le (.c 265) (.v 1)) R927 .done)

def R929 : Pt := (.fork (.le (.c 264) (.v 1)) R928 .done)

def R930 : Pt := (.fork (.le (.c 263) (.v 1)) R929 .done)

def R931 : Pt := (.fork (.le (.c 262) (.v 1)) R930 .done)

def R932 : Pt := (.fork (.le (.c 261) (.v 1)) R931 .done)

def R933 : Pt := (.fork (.le (.c 260) (.v 1)) R932 .done)

def R934 : Pt := (.fork (.le (.c 259) (.v 1)) R933 .done)

def R935 : Pt := (.fork (.le (.c 258) (.v 1)) R934 .done)

def R936 : Pt := (.fork (.le (.c 257) (.v 1)) R935 .done)

def R937 : Pt := (.fork (.le (.c 256) (.v 1)) R936 .done)

def R938 : Pt := (.fork (.le (.c 255) (.v 1)) R937 .done)

def R939 : Pt := (.fork (.le (.c 254) (.v 1)) R938 .done)

def R940 : Pt := (.fork (.le (.c 253) (.v 1)) R939 .done)

def R941 : Pt := (.fork (.le (.c 252) (.v 1)) R940 .done)

def R942 : Pt := (.fork (.le (.c 251) (.v 1)) R941 .done)

def R943 : Pt := (.fork (.le (.c 250) (.v 1)) R942 .done)

def R944 : Pt := (.fork (.le (.c 249) (.v 1)) R943 .done)

def R945 : Pt := (.fork (.le (.c 248) (.v 1)) R944 .done)

def R946 : Pt := (.fork (.le (.c 247) (.v 1)) R945 .done)

def R947 : Pt := (.fork (.le (.c 246) (.v 1)) R946 .done)

def R948 : Pt := (.fork (.le (.c 245) (.v 1)) R947 .done)

def R949 : Pt := (.fork (.le (.c 244) (.v 1)) R948 .done)

def R950 : Pt := (.fork (.le (.c 243) (.v 1)) R949 .done)

def R951 : Pt := (.fork (.le (.c 242) (.v 1)) R950 .done)

def R952 : Pt := (.fork (.le (.c 241) (.v 1)) R951 .done)

def R953 : Pt := (.fork (.le (.c 240) (.v 1)) R952 .done)

def R954 : Pt := (.fork (.le (.c 239) (.v 1)) R953 .done)

def R955 : Pt := (.fork (.le (.c 238) (.v 1)) R954 .done)

def R956 : Pt := (.fork (.le (.c 237) (.v 1)) R955 .done)

def R957 : Pt := (.fork (.le (.c 236) (.v 1)) R956 .done)

def R958 : Pt := (.fork (.le (.c 235) (.v 1)) R957 .done)

def R959 : Pt := (.fork (.le (.c 234) (.v 1)) R958 .done)

def R960 : Pt := (.fork (.le (.c 233) (.v 1)) R959 .done)

def R961 : Pt := (.fork (.le (.c 232) (.v 1)) R960 .done)

def R962 : Pt := (.fork (.le (.c 231) (.v 1)) R961 .done)

def R963 : Pt := (.fork (.le (.c 230) (.v 1)) R962 .done)

def R964 : Pt := (.fork (.le (.c 229) (.v 1)) R963 .done)

def R965 : Pt := (.fork (.le (.c 228) (.v 1)) R964 .done)

def R966 : Pt := (.fork (.le (.c 227) (.v 1)) R965 .done)

def R967 : Pt := (.fork (.le (.c 226) (.v 1)) R966 .done)

def R968 : Pt := (.fork (.le (.c 225) (.v 1)) R967 .done)

def R969 : Pt := (.fork (.le (.c 224) (.v 1)) R968 .done)

def R970 : Pt := (.fork (.le (.c 223) (.v 1)) R969 .done)

def R971 : Pt := (.fork (.le (.c 222) (.v 1)) R970 .done)

def R972 : Pt := (.fork (.le (.c 221) (.v 1)) R971 .done)

def R973 : Pt := (.fork (.le (.c 220) (.v 1)) R972 .done)

def R974 : Pt := (.fork (.le (.c 219) (.v 1)) R973 .done)

def R975 : Pt := (.fork (.le (.c 218) (.v 1)) R974 .done)

def R976 : Pt := (.fork (.le (.c 217) (.v 1)) R975 .done)

def R977 : Pt := (.fork (.le (.c 216) (.v 1)) R976 .done)

def R978 : Pt := (.fork (.le (.c 215) (.v 1)) R977 .done)

def R979 : Pt := (.fork (.le (.c 214) (.v 1)) R978 .done)

def R980 : Pt := (.fork (.le (.c 213) (.v 1)) R979 .done)

def R981 : Pt := (.fork (.le (.c 212) (.v 1)) R980 .done)

def R982 : Pt := (.fork (.le (.c 211) (.v 1)) R981 .done)

def R983 : Pt := (.fork (.le (.c 210) (.v 1)) R982 .done)

def R984 : Pt := (.fork (.le (.c 209) (.v 1)) R983 .done)

def R985 : Pt := (.fork (.le (.c 208) (.v 1)) R984 .done)

def R986 : Pt := (.fork (.le (.c 207) (.v 1)) R985 .done)

def R987 : Pt := (.fork (.le (.c 206) (.v 1)) R986 .done)

def R988 : Pt := (.fork (.le (.c 205) (.v 1)) R987 .done)

def R989 : Pt := (.fork (.le (.c 204) (.v 1)) R988 .done)

def R990 : Pt := (.fork (.le (.c 203) (.v 1)) R989 .done)

def R991 : Pt := (.fork (.le (.c 202) (.v 1)) R990 .done)

def R992 : Pt := (.fork (.le (.c 201) (.v 1)) R991 .done)

def R993 : Pt := (.fork (.le (.c 200) (.v 1)) R992 .done)

def R994 : Pt := (.fork (.le (.c 199) (.v 1)) R993 .done)

def R995 : Pt := (.fork (.le (.c 198) (.v 1)) R994 .done)

def R996 : Pt := (.fork (.le (.c 197) (.v 1)) R995 .done)

def R997 : Pt := (.fork (.le (.c 196) (.v 1)) R996 .done)

def R998 : Pt := (.fork (.le (.c 195) (.v 1)) R997 .done)

def R999 : Pt := (.fork (.le (.c 194) (.v 1)) R998 .done)

def R1000 : Pt := (.fork (.le (.c 193) (.v 1)) R999 .done)

def R1001 : Pt := (.fork (.le (.c 192) (.v 1)) R1000 .done)

def R1002 : Pt := (.fork (.le (.c 191) (.v 1)) R1001 .done)

def R1003 : Pt := (.fork (.le (.c 190) (.v 1)) R1002 .done)

def R1004 : Pt := (.fork (.le (.c 189) (.v 1)) R1003 .done)

def R1005 : Pt := (.fork (.le (.c 188) (.v 1)) R1004 .done)

def R1006 : Pt := (.fork (.le (.c 187) (.v 1)) R1005 .done)

def R1007 : Pt := (.fork (.le (.c 186) (.v 1)) R1006 .done)

def R1008 : Pt := (.fork (.le (.c 185) (.v 1)) R1007 .done)

def R1009 : Pt := (.fork (.le (.c 184) (.v 1)) R1008 .done)

def R1010 : Pt := (.fork (.le (.c 183) (.v 1)) R1009 .done)

def R1011 : Pt := (.fork (.le (.c 182) (.v 1)) R1010 .done)

def R1012 : Pt := (.fork (.le (.c 181) (.v 1)) R1011 .done)

def R1013 : Pt := (.fork (.le (.c 180) (.v 1)) R1012 .done)

def R1014 : Pt := (.fork (.le (.c 179) (.v 1)) R1013 .done)

def R1015 : Pt := (.fork (.le (.c 178) (.v 1)) R1014 .done)

def R1016 : Pt := (.fork (.le (.c 177) (.v 1)) R1015 .done)

def R1017 : Pt := (.fork (.le (.c 176) (.v 1)) R1016 .done)

def R1018 : Pt := (.fork (.le (.c 175) (.v 1)) R1017 .done)

def R1019 : Pt := (.fork (.le (.c 174) (.v 1)) R1018 .done)

def R1020 : Pt := (.fork (.le (.c 173) (.v 1)) R1019 .done)

def R1021 : Pt := (.fork (.le (.c 172) (.v 1)) R1020 .done)

def R1022 : Pt := (.fork (.le (.c 171) (.v 1)) R1021 .done)

def R1023 : Pt := (.fork (.le (.c 170) (.v 1)) R1022 .done)

def R1024 : Pt := (.fork (.le (.c 169) (.v 1)) R1023 .done)

def R1025 : Pt := (.fork (.le (.c 168) (.v 1)) R1024 .done)

def R1026 : Pt := (.fork (.le (.c 167) (.v 1)) R1025 .done)

def R1027 : Pt := (.fork (.le (.c 166) (.v 1)) R1026 .done)

def R1028 : Pt := (.fork (.le (.c 165) (.v 1)) R1027 .done)

def R1029 : Pt := (.fork (.le (.c 164) (.v 1)) R1028 .done)

def R1030 : Pt := (.fork (.le (.c 163) (.v 1)) R1029 .done)

def R1031 : Pt := (.fork (.le (.c 162) (.v 1)) R1030 .done)

def R1032 : Pt := (.fork (.le (.c 161) (.v 1)) R1031 .done)

def R1033 : Pt := (.fork (.le (.c 160) (.v 1)) R1032 .done)

def R1034 : Pt := (.fork (.le (.c 159) (.v 1)) R1033 .done)

def R1035 : Pt := (.fork (.le (.c 158) (.v 1)) R1034 .done)

def R1036 : Pt := (.fork (.le (.c 157) (.v 1)) R1035 .done)

def R1037 : Pt := (.fork (.le (.c 156) (.v 1)) R1036 .done)

def R1038 : Pt := (.fork (.le (.c 155) (.v 1)) R1037 .done)

def R1039 : Pt := (.fork (.le (.c 154) (.v 1)) R1038 .done)

def R1040 : Pt := (.fork (.le (.c 153) (.v 1)) R1039 .done)

def R1041 : Pt := (.fork (.le (.c 152) (.v 1)) R1040 .done)

def R1042 : Pt := (.fork (.le (.c 151) (.v 1)) R1041 .done)

def R1043 : Pt := (.fork (.le (.c 150) (.v 1)) R1042 .done)

def R1044 : Pt := (.fork (.le (.c 149) (.v 1)) R1043 .done)

def R1045 : Pt := (.fork (.le (.c 148) (.v 1)) R1044 .done)

def R1046 : Pt := (.fork (.le (.c 147) (.v 1)) R1045 .done)

def R1047 : Pt := (.fork (.le (.c 146) (.v 1)) R1046 .done)

def R1048 : Pt := (.fork (.le (.c 145) (.v 1)) R1047 .done)

def R1049 : Pt := (.fork (.le (.c 144) (.v 1)) R1048 .done)

def R1050 : Pt := (.fork (.le (.c 143) (.v 1)) R1049 .done)

def R1051 : Pt := (.fork (.le (.c 142) (.v 1)) R1050 .done)

def R1052 : Pt := (.fork (.le (.c 141) (.v 1)) R1051 .done)

def R1053 : Pt := (.fork (.le (.c 140) (.v 1)) R1052 .done)

def R1054 : Pt := (.fork (.le (.c 139) (.v 1)) R1053 .done)

def R1055 : Pt := (.fork (.le (.c 138) (.v 1)) R1054 .done)

def R1056 : Pt := (.fork (.le (.c 137) (.v 1)) R1055 .done)

def R1057 : Pt := (.fork (.le (.c 136) (.v 1)) R1056 .done)

def R1058 : Pt := (.fork (.le (.c 135) (.v 1)) R1057 .done)

def R1059 : Pt := (.fork (.le (.c 134) (.v 1)) R1058 .done)

def R1060 : Pt := (.fork (.le (.c 133) (.v 1)) R1059 .done)

def R1061 : Pt := (.fork (.le (.c 132) (.v 1)) R1060 .done)

def R1062 : Pt := (.fork (.le (.c 131) (.v 1)) R1061 .done)

def R1063 : Pt := (.fork (.le (.c 130) (.v 1)) R1062 .done)

def R1064 : Pt := (.fork (.le (.c 129) (.v 1)) R1063 .done)

def R1065 : Pt := (.fork (.le (.c 128) (.v 1)) R1064 .done)

def R1066 : Pt := (.fork (.le (.c 127) (.v 1)) R1065 .done)

def R1067 : Pt := (.fork (.le (.c 126) (.v 1)) R1066 .done)

def R1068 : Pt := (.fork (.le (.c 125) (.v 1)) R1067 .done)

def R1069 : Pt := (.fork (.le (.c 124) (.v 1)) R1068 .done)

def R1070 : Pt := (.fork (.le (.c 123) (.v 1)) R1069 .done)

def R1071 : Pt := (.fork (.le (.c 122) (.v 1)) R1070 .done)

def R1072 : Pt := (.fork (.le (.c 121) (.v 1)) R1071 .done)

def R1073 : Pt := (.fork (.le (.c 120) (.v 1)) R1072 .done)

def R1074 : Pt := (.fork (.le (.c 119) (.v 1)) R1073 .done)

def R1075 : Pt := (.fork (.le (.c 118) (.v 1)) R1074 .done)

def R1076 : Pt := (.fork (.le (.c 117) (.v 1)) R1075 .done)

def R1077 : Pt := (.fork (.le (.c 116) (.v 1)) R1076 .done)

def R1078 : Pt := (.fork (.le (.c 115) (.v 1)) R1077 .done)

def R1079 : Pt := (.fork (.le (.c 114) (.v 1)) R1078 .done)

def R1080 : Pt := (.fork (.le (.c 113) (.v 1)) R1079 .done)

def R1081 : Pt := (.fork (.le (.c 112) (.v 1)) R1080 .done)

def R1082 : Pt := (.fork (.le (.c 111) (.v 1)) R1081 .done)

def R1083 : Pt := (.fork (.le (.c 110) (.v 1)) R1082 .done)

def R1084 : Pt := (.fork (.le (.c 109) (.v 1)) R1083 .done)

def R1085 : Pt := (.fork (.le (.c 108) (.v 1)) R1084 .done)

def R1086 : Pt := (.fork (.le (.c 107) (.v 1)) R1085 .done)

def R1087 : Pt := (.fork (.le (.c 106) (.v 1)) R1086 .done)

def R1088 : Pt := (.fork (.le (.c 105) (.v 1)) R1087 .done)

def R1089 : Pt := (.fork (.le (.c 104) (.v 1)) R1088 .done)

def R1090 : Pt := (.fork (.le (.c 103) (.v 1)) R1089 .done)

def R1091 : Pt := (.fork (.le (.c 102) (.v 1)) R1090 .done)

def R1092 : Pt := (.fork (.le (.c 101) (.v 1)) R1091 .done)

def R1093 : Pt := (.fork (.le (.c 100) (.v 1)) R1092 .done)

def R1094 : Pt := (.fork (.le (.c 99) (.v 1)) R1093 .done)

def R1095 : Pt := (.fork (.le (.c 98) (.v 1)) R1094 .done)

def R1096 : Pt := (.fork (.le (.c 97) (.v 1)) R1095 .done)

def R1097 : Pt := (.fork (.le (.c 96) (.v 1)) R1096 .done)

def R1098 : Pt := (.fork (.le (.c 95) (.v 1)) R1097 .done)

def R1099 : Pt := (.fork (.le (.c 94) (.v 1)) R1098 .done)

def R1100 : Pt := (.fork (.le (.c 93) (.v 1)) R1099 .done)

def R1101 : Pt := (.fork (.le (.c 92) (.v 1)) R1100 .done)

def R1102 : Pt := (.fork (.le (.c 91) (.v 1)) R1101 .done)

def R1103 : Pt := (.fork (.le (.c 90) (.v 1)) R1102 .done)

def R1104 : Pt := (.fork (.le (.c 89) (.v 1)) R1103 .done)

def R1105 : Pt := (.fork (.le (.c 88) (.v 1)) R1104 .done)

def R1106 : Pt := (.fork (.le (.c 87) (.v 1)) R1105 .done)

def R1107 : Pt := (.fork (.le (.c 86) (.v 1)) R1106 .done)

def R1108 : Pt := (.fork (.le (.c 85) (.v 1)) R1107 .done)

def R1109 : Pt := (.fork (.le (.c 84) (.v 1)) R1108 .done)

def R1110 : Pt := (.fork (.le (.c 83) (.v 1)) R1109 .done)

def R1111 : Pt := (.fork (.le (.c 82) (.v 1)) R1110 .done)

def R1112 : Pt := (.fork (.le (.c 81) (.v 1)) R1111 .done)

def R1113 : Pt := (.fork (.le (.c 80) (.v 1)) R1112 .done)

def R1114 : Pt := (.fork (.le (.c 79) (.v 1)) R1113 .done)

def R1115 : Pt := (.fork (.le (.c 78) (.v 1)) R1114 .done)

def R1116 : Pt := (.fork (.le (.c 77) (.v 1)) R1115 .done)

def R1117 : Pt := (.fork (.le (.c 76) (.v 1)) R1116 .done)

def R1118 : Pt := (.fork (.le (.c 75) (.v 1)) R1117 .done)

def R1119 : Pt := (.fork (.le (.c 74) (.v 1)) R1118 .done)

def R1120 : Pt := (.fork (.le (.c 73) (.v 1)) R1119 .done)

def R1121 : Pt := (.fork (.le (.c 72) (.v 1)) R1120 .done)

def R1122 : Pt := (.fork (.le (.c 71) (.v 1)) R1121 .done)

def R1123 : Pt := (.fork (.le (.c 70) (.v 1)) R1122 .done)

def R1124 : Pt := (.fork (.le (.c 69) (.v 1)) R1123 .done)

def R1125 : Pt := (.fork (.le (.c 68) (.v 1)) R1124 .done)

def R1126 : Pt := (.fork (.le (.c 67) (.v 1)) R1125 .done)

def R1127 : Pt := (.fork (.le (.c 66) (.v 1)) R1126 .done)

def R1128 : Pt := (.fork (.le (.c 65) (.v 1)) R1127 .done)

def R1129 : Pt := (.fork (.le (.c 64) (.v 1)) R1128 .done)

def R1130 : Pt := (.fork (.le (.c 63) (.v 1)) R1129 .done)

def R1131 : Pt := (.fork (.le (.c 62) (.v 1)) R1130 .done)

def R1132 : Pt := (.fork (.le (.c 61) (.v 1)) R1131 .done)

def R1133 : Pt := (.fork (.le (.c 60) (.v 1)) R1132 .done)

def R1134 : Pt := (.fork (.le (.c 59) (.v 1)) R1133 .done)

def R1135 : Pt := (.fork (.le (.c 58) (.v 1)) R1134 .done)

def R1136 : Pt := (.fork (.le (.c 57) (.v 1)) R1135 .done)

def R1137 : Pt := (.fork (.le (.c 56) (.v 1)) R1136 .done)

def R1138 : Pt := (.fork (.le (.c 55) (.v 1)) R1137 .done)

def R1139 : Pt := (.fork (.le (.c 54) (.v 1)) R1138 .done)

def R1140 : Pt := (.fork (.le (.c 53) (.v 1)) R1139 .done)

def R1141 : Pt := (.fork (.le (.c 52) (.v 1)) R1140 .done)

def R1142 : Pt := (.fork (.le (.c 51) (.v 1)) R1141 .done)

def R1143 : Pt := (.fork (.le (.c 50) (.v 1)) R1142 .done)

def R1144 : Pt := (.fork (.le (.c 49) (.v 1)) R1143 .done)

def R1145 : Pt := (.fork (.le (.c 48) (.v 1)) R1144 .done)

def R1146 : Pt := (.fork (.le (.c 47) (.v 1)) R1145 .done)

def R1147 : Pt := (.fork (.le (.c 46) (.v 1)) R1146 .done)

def R1148 : Pt := (.fork (.le (.c 45) (.v 1)) R1147 .done)

def R1149 : Pt := (.fork (.le (.c 44) (.v 1)) R1148 .done)

def R1150 : Pt := (.fork (.le (.c 43) (.v 1)) R1149 .done)

def R1151 : Pt := (.fork (.le (.c 42) (.v 1)) R1150 .done)

def R1152 : Pt := (.fork (.le (.c 41) (.v 1)) R1151 .done)

def R1153 : Pt := (.fork (.le (.c 40) (.v 1)) R1152 .done)

def R1154 : Pt := (.fork (.le (.c 39) (.v 1)) R1153 .done)

def R1155 : Pt := (.fork (.le (.c 38) (.v 1)) R1154 .done)

def R1156 : Pt := (.fork (.le (.c 37) (.v 1)) R1155 .done)

def R1157 : Pt := (.fork (.le (.c 36) (.v 1)) R1156 .done)

def R1158 : Pt := (.fork (.le (.c 35) (.v 1)) R1157 .done)

def R1159 : Pt := (.fork (.le (.c 34) (.v 1)) R1158 .done)

def R1160 : Pt := (.fork (.le (.c 33) (.v 1)) R1159 .done)

def R1161 : Pt := (.fork (.le (.c 32) (.v 1)) R1160 .done)

def R1162 : Pt := (.fork (.le (.c 31) (.v 1)) R1161 .done)

def R1163 : Pt := (.fork (.le (.c 30) (.v 1)) R1162 .done)

def R1164 : Pt := (.fork (.le (.c 29) (.v 1)) R1163 .done)

def R1165 : Pt := (.fork (.le (.c 28) (.v 1)) R1164 .done)

def R1166 : Pt := (.fork (.le (.c 27) (.v 1)) R1165 .done)

def R1167 : Pt := (.fork (.le (.c 26) (.v 1)) R1166 .done)

def R1168 : Pt := (.fork (.le (.c 25) (.v 1)) R1167 .done)

def R1169 : Pt := (.fork (.le (.c 24) (.v 1)) R1168 .done)

def R1170 : Pt := (.fork (.le (.c 23) (.v 1)) R1169 .done)

def R1171 : Pt := (.fork (.le (.c 22) (.v 1)) R1170 .done)

def R1172 : Pt := (.fork (.le (.c 21) (.v 1)) R1171 .done)

def R1173 : Pt := (.fork (.le (.c 20) (.v 1)) R1172 .done)

def R1174 : Pt := (.fork (.le (.c 19) (.v 1)) R1173 .done)

def R1175 : Pt := (.fork (.le (.c 18) (.v 1)) R1174 .done)

def R1176 : Pt := (.fork (.le (.c 17) (.v 1)) R1175 .done)

def R1177 : Pt := (.fork (.le (.c 16) (.v 1)) R1176 .done)

def R1178 : Pt := (.fork (.le (.c 15) (.v 1)) R1177 .done)

def R1179 : Pt := (.fork (.le (.c 14) (.v 1)) R1178 .done)

def R1180 : Pt := (.fork (.le (.c 13) (.v 1)) R1179 .done)

def R1181 : Pt := (.fork (.le (.c 12) (.v 1)) R1180 .done)

def R1182 : Pt := (.fork (.le (.c 11) (.v 1)) R1181 .done)

def R1183 : Pt := (.fork (.le (.c 10) (.v 1)) R1182 .done)

def R1184 : Pt := (.fork (.le (.c 9) (.v 1)) R1183 .done)

def R1185 : Pt := (.fork (.le (.c 8) (.v 1)) R1184 .done)

def R1186 : Pt := (.fork (.le (.c 7) (.v 1)) R1185 .done)

def R1187 : Pt := (.fork (.le (.c 6) (.v 1)) R1186 .done)

def R1188 : Pt := (.fork (.le (.c 5) (.v 1)) R1187 .done)

def R1189 : Pt := (.fork (.le (.c 4) (.v 1)) R1188 .done)

def R1190 : Pt := (.fork (.le (.c 3) (.v 1)) R1189 .done)

def R1191 : Pt := (.fork (.le (.c 2) (.v 1)) R1190 .done)

def R1192 : Pt := (.fork (.le (.c 1) (.v 1)) R1191 .done)

def R1193 : Pt := (.fork (.lt (.c 0) (.v 0)) R595 R1192)

def R1194 : Pt := (.fork (.lt (.c 600) (.v 1)) .done R1193)

def R1195 : Pt := (.fork (.lt (.v 1) (.c 0)) .done R1194)

def R1196 : Pt := (.fork (.lt (.c 549755813888) (.v 0)) .done R1195)

def R1197 : Pt := (.fork (.lt (.v 0) (.c 0)) .done R1196)

theorem o0 (a0 z2 : Int) (h0 : (-9223372036854775808 : Int) ≤ a0) (h1 : a0 ≤ (9223372036854775807 : Int)) (h2 : ¬ (549755813888 : Int) < a0) (h3 : (0 : Int) < a0) (h4 : z2 = (a0) % 4294967296) : (a0) % 4294967296 = z2 := by omega

theorem o1 (a0 z2 z3 : Int) (h0 : (-9223372036854775808 : Int) ≤ a0) (h1 : a0 ≤ (9223372036854775807 : Int)) (h2 : ¬ (549755813888 : Int) < a0) (h3 : (0 : Int) < a0) (h4 : z2 = (a0) % 4294967296) (h5 : z3 = z2 / 16777216) : z2 / 16777216 = z3 := by omega

theorem o2 (a0 z2 z3 : Int) (h0 : (-9223372036854775808 : Int) ≤ a0) (h1 : a0 ≤ (9223372036854775807 : Int)) (h2 : ¬ (549755813888 : Int) < a0) (h3 : (0 : Int) < a0) (h4 : z2 = (a0) % 4294967296) (h5 : z3 = z2 / 16777216) : (z3) % 256 = z3 := by omega

theorem o3 (a0 z2 z3 z4 : Int) (h0 : (-9223372036854775808 : Int) ≤ a0) (h1 : a0 ≤ (9223372036854775807 : Int)) (h2 : ¬ (549755813888 : Int) < a0) (h3 : (0 : Int) < a0) (h4 : z2 = (a0) % 4294967296) (h5 : z3 = z2 / 16777216) (h6 : z4 = z2 / 65536) : z2 / 65536 = z4 := by omega

theorem o4 (a0 z2 z3 z4 z5 : Int) (h0 : (-9223372036854775808 : Int) ≤ a0) (h1 : a0 ≤ (9223372036854775807 : Int)) (h2 : ¬ (549755813888 : Int) < a0) (h3 : (0 : Int) < a0) (h4 : z2 = (a0) % 4294967296) (h5 : z3 = z2 / 16777216) (h6 : z4 = z2 / 65536) (h7 : z5 = (z4) % 256) : (z4) % 256 = z5 := by omega

theorem o5 (a0 z2 z3 z4 z5 z6 : Int) (h0 : (-9223372036854775808 : Int) ≤ a0) (h1 : a0 ≤ (9223372036854775807 : Int)) (h2 : ¬ (549755813888 : Int) < a0) (h3 : (0 : Int) < a0) (h4 : z2 = (a0) % 4294967296) (h5 : z3 = z2 / 16777216) (h6 : z4 = z2 / 65536) (h7 : z5 = (z4) % 256) (h8 : z6 = z2 / 256) : z2 / 256 = z6 := by omega

theorem o6 (a0 z2 z3 z4 z5 z6 z7 : Int) (h0 : (-9223372036854775808 : Int) ≤ a0) (h1 : a0 ≤ (9223372036854775807 : Int)) (h2 : ¬ (549755813888 : Int) < a0) (h3 : (0 : Int) < a0) (h4 : z2 = (a0) % 4294967296) (h5 : z3 = z2 / 16777216) (h6 : z4 = z2 / 65536) (h7 : z5 = (z4) % 256) (h8 : z6 = z2 / 256) (h9 : z7 = (z6) % 256) : (z6) % 256 = z7 := by omega

theorem o7 (a0 z2 z3 z4 z5 z6 z7 z8 : Int) (h0 : (-9223372036854775808 : Int) ≤ a0) (h1 : a0 ≤ (9223372036854775807 : Int)) (h2 : ¬ (549755813888 : Int) < a0) (h3 : (0 : Int) < a0) (h4 : z2 = (a0) % 4294967296) (h5 : z3 = z2 / 16777216) (h6 : z4 = z2 / 65536) (h7 : z5 = (z4) % 256) (h8 : z6 = z2 / 256) (h9 : z7 = (z6) % 256) (h10 : z8 = (z2) % 256) : (z2) % 256 = z8 := by omega

theorem o8 (a0 z2 z3 z4 z5 z6 z7 z8 z9 : Int) (h0 : (-9223372036854775808 : Int) ≤ a0) (h1 : a0 ≤ (9223372036854775807 : Int)) (h2 : ¬ (549755813888 : Int) < a0) (h3 : (0 : Int) < a0) (h4 : z2 = (a0) % 4294967296) (h5 : z3 = z2 / 16777216) (h6 : z4 = z2 / 65536) (h7 : z5 = (z4) % 256) (h8 : z6 = z2 / 256) (h9 : z7 = (z6) % 256) (h10 : z8 = (z2) % 256) (h11 : z9 = ((a0 + (1 : Int))) % 4294967296) : ((a0 + (1 : Int))) % 4294967296 = z9 := by omega

theorem o9 (a0 z2 z3 z4 z5 z6 z7 z8 z9 z10 : Int) (h0 : (-9223372036854775808 : Int) ≤ a0) (h1 : a0 ≤ (9223372036854775807 : Int)) (h2 : ¬ (549755813888 : Int) < a0) (h3 : (0 : Int) < a0) (h4 : z2 = (a0) % 4294967296) (h5 : z3 = z2 / 16777216) (h6 : z4 = z2 / 65536) (h7 : z5 = (z4) % 256) (h8 : z6 = z2 / 256) (h9 : z7 = (z6) % 256) (h10 : z8 = (z2) % 256) (h11 : z9 = ((a0 + (1 : Int))) % 4294967296) (h12 : z10 = z9 / 16777216) : z9 / 16777216 = z10 := by omega

theorem o10 (a0 z2 z3 z4 z5 z6 z7 z8 z9 z10 : Int) (h0 : (-9223372036854775808 : Int) ≤ a0) (h1 : a0 ≤ (9223372036854775807 : Int)) (h2 : ¬ (549755813888 : Int) < a0) (h3 : (0 : Int) < a0) (h4 : z2 = (a0) % 4294967296) (h5 : z3 = z2 / 16777216) (h6 : z4 = z2 / 65536) (h7 : z5 = (z4) % 256) (h8 : z6 = z2 / 256) (h9 : z7 = (z6) % 256) (h10 : z8 = (z2) % 256) (h11 : z9 = ((a0 + (1 : Int))) % 4294967296) (h12 : z10 = z9 / 16777216) : (z10) % 256 = z10 := by omega

theorem o11 (a0 z2 z3 z4 z5 z6 z7 z8 z9 z10 z11 : Int) (h0 : (-9223372036854775808 : Int) ≤ a0) (h1 : a0 ≤ (9223372036854775807 : Int)) (h2 : ¬ (549755813888 : Int) < a0) (h3 : (0 : Int) < a0) (h4 : z2 = (a0) % 4294967296) (h5 : z3 = z2 / 16777216) (h6 : z4 = z2 / 65536) (h7 : z5 = (z4) % 256) (h8 : z6 = z2 / 256) (h9 : z7 = (z6) % 256) (h10 : z8 = (z2) % 256) (h11 : z9 = ((a0 + (1 : Int))) % 4294967296) (h12 : z10 = z9 / 16777216) (h13 : z11 = z9 / 65536) : z9 / 65536 = z11 := by omega

theorem o12 (a0 z2 z3 z4 z5 z6 z7 z8 z9 z10 z11 z12 : Int) (h0 : (-9223372036854775808 : Int) ≤ a0) (h1 : a0 ≤ (9223372036854775807 : Int)) (h2 : ¬ (549755813888 : Int) < a0) (h3 : (0 : Int) < a0) (h4 : z2 = (a0) % 4294967296) (h5 : z3 = z2 / 16777216) (h6 : z4 = z2 / 65536) (h7 : z5 = (z4) % 256) (h8 : z6 = z2 / 256) (h9 : z7 = (z6) % 256) (h10 : z8 = (z2) % 256) (h11 : z9 = ((a0 + (1 : Int))) % 4294967296) (h12 : z10 = z9 / 16777216) (h13 : z11 = z9 / 65536) (h14 : z12 = (z11) % 256) : (z11) % 256 = z12 := by omega

theorem o13 (a0 z2 z3 z4 z5 z6 z7 z8 z9 z10 z11 z12 z13 : Int) (h0 : (-9223372036854775808 : Int) ≤ a0) (h1 : a0 ≤ (9223372036854775807 : Int)) (h2 : ¬ (549755813888 : Int) < a0) (h3 : (0 : Int) < a0) (h4 : z2 = (a0) % 4294967296) (h5 : z3 = z2 / 16777216) (h6 : z4 = z2 / 65536) (h7 : z5 = (z4) % 256) (h8 : z6 = z2 / 256) (h9 : z7 = (z6) % 256) (h10 : z8 = (z2) % 256) (h11 : z9 = ((a0 + (1 : Int))) % 4294967296) (h12 : z10 = z9 / 16777216) (h13 : z11 = z9 / 65536) (h14 : z12 = (z11) % 256) (h15 : z13 = z9 / 256) : z9 / 256 = z13 := by omega

theorem o14 (a0 z2 z3 z4 z5 z6 z7 z8 z9 z10 z11 z12 z13 z14 : Int) (h0 : (-9223372036854775808 : Int) ≤ a0) (h1 : a0 ≤ (9223372036854775807 : Int)) (h2 : ¬ (549755813888 : Int) < a0) (h3 : (0 : Int) < a0) (h4 : z2 = (a0) % 4294967296) (h5 : z3 = z2 / 16777216) (h6 : z4 = z2 / 65536) (h7 : z5 = (z4) % 256) (h8 : z6 = z2 / 256) (h9 : z7 = (z6) % 256) (h10 : z8 = (z2) % 256) (h11 : z9 = ((a0 + (1 : Int))) % 4294967296) (h12 : z10 = z9 / 16777216) (h13 : z11 = z9 / 65536) (h14 : z12 = (z11) % 256) (h15 : z13 = z9 / 256) (h16 : z14 = (z13) % 256) : (z13) % 256 = z14 := by omega

theorem o15 (a0 z2 z3 z4 z5 z6 z7 z8 z9 z10 z11 z12 z13 z14 z15 : Int) (h0 : (-9223372036854775808 : Int) ≤ a0) (h1 : a0 ≤ (9223372036854775807 : Int)) (h2 : ¬ (549755813888 : Int) < a0) (h3 : (0 : Int) < a0) (h4 : z2 = (a0) % 4294967296) (h5 : z3 = z2 / 16777216) (h6 : z4 = z2 / 65536) (h7 : z5 = (z4) % 256) (h8 : z6 = z2 / 256) (h9 : z7 = (z6) % 256) (h10 : z8 = (z2) % 256) (h11 : z9 = ((a0 + (1 : Int))) % 4294967296) (h12 : z10 = z9 / 16777216) (h13 : z11 = z9 / 65536) (h14 : z12 = (z11) % 256) (h15 : z13 = z9 / 256) (h16 : z14 = (z13) % 256) (h17 : z15 = (z9) % 256) : (z9) % 256 = z15 := by omega

theorem o16 (a0 z2 z3 z4 z5 z6 z7 z8 z9 z10 z11 z12 z13 z14 z15 z16 : Int) (h0 : (-9223372036854775808 : Int) ≤ a0) (h1 : a0 ≤ (9223372036854775807 : Int)) (h2 : ¬ (549755813888 : Int) < a0) (h3 : (0 : Int) < a0) (h4 : z2 = (a0) % 4294967296) (h5 : z3 = z2 / 16777216) (h6 : z4 = z2 / 65536) (h7 : z5 = (z4) % 256) (h8 : z6 = z2 / 256) (h9 : z7 = (z6) % 256) (h10 : z8 = (z2) % 256) (h11 : z9 = ((a0 + (1 : Int))) % 4294967296) (h12 : z10 = z9 / 16777216) (h13 : z11 = z9 / 65536) (h14 : z12 = (z11) % 256) (h15 : z13 = z9 / 256) (h16 : z14 = (z13) % 256) (h17 : z15 = (z9) % 256) (h18 : z16 = ((a0 + (3 : Int))) % 4294967296) : ((a0 + (3 : Int))) % 4294967296 = z16 := by omega

theorem o17 (a0 z2 z3 z4 z5 z6 z7 z8 z9 z10 z11 z12 z13 z14 z15 z16 z17 : Int) (h0 : (-9223372036854775808 : Int) ≤ a0) (h1 : a0 ≤ (9223372036854775807 : Int)) (h2 : ¬ (549755813888 : Int) < a0) (h3 : (0 : Int) < a0) (h4 : z2 = (a0) % 4294967296) (h5 : z3 = z2 / 16777216) (h6 : z4 = z2 / 65536) (h7 : z5 = (z4) % 256) (h8 : z6 = z2 / 256) (h9 : z7 = (z6) % 256) (h10 : z8 = (z2) % 256) (h11 : z9 = ((a0 + (1 : Int))) % 4294967296) (h12 : z10 = z9 / 16777216) (h13 : z11 = z9 / 65536) (h14 : z12 = (z11) % 256) (h15 : z13 = z9 / 256) (h16 : z14 = (z13) % 256) (h17 : z15 = (z9) % 256) (h18 : z16 = ((a0 + (3 : Int))) % 4294967296) (h19 : z17 = z16 / 16777216) : z16 / 16777216 = z17 := by omega

theorem o18 (a0 z2 z3 z4 z5 z6 z7 z8 z9 z10 z11 z12 z13 z14 z15 z16 z17 : Int) (h0 : (-9223372036854775808 : Int) ≤ a0) (h1 : a0 ≤ (9223372036854775807 : Int)) (h2 : ¬ (549755813888 : Int) < a0) (h3 : (0 : Int) < a0) (h4 : z2 = (a0) % 4294967296) (h5 : z3 = z2 / 16777216) (h6 : z4 = z2 / 65536) (h7 : z5 = (z4) % 256) (h8 : z6 = z2 / 256) (h9 : z7 = (z6) % 256) (h10 : z8 = (z2) % 256) (h11 : z9 = ((a0 + (1 : Int))) % 4294967296) (h12 : z10 = z9 / 16777216) (h13 : z11 = z9 / 65536) (h14 : z12 = (z11) % 256) (h15 : z13 = z9 / 256) (h16 : z14 = (z13) % 256) (h17 : z15 = (z9) % 256) (h18 : z16 = ((a0 + (3 : Int))) % 4294967296) (h19 : z17 = z16 / 16777216) : (z17) % 256 = z17 := by omega

theorem o19 (a0 z2 z3 z4 z5 z6 z7 z8 z9 z10 z11 z12 z13 z14 z15 z16 z17 z18 : Int) (h0 : (-9223372036854775808 : Int) ≤ a0) (h1 : a0 ≤ (9223372036854775807 : Int)) (h2 : ¬ (549755813888 : Int) < a0) (h3 : (0 : Int) < a0) (h4 : z2 = (a0) % 4294967296) (h5 : z3 = z2 / 16777216) (h6 : z4 = z2 / 65536) (h7 : z5 = (z4) % 256) (h8 : z6 = z2 / 256) (h9 : z7 = (z6) % 256) (h10 : z8 = (z2) % 256) (h11 : z9 = ((a0 + (1 : Int))) % 4294967296) (h12 : z10 = z9 / 16777216) (h13 : z11 = z9 / 65536) (h14 : z12 = (z11) % 256) (h15 : z13 = z9 / 256) (h16 : z14 = (z13) % 256) (h17 : z15 = (z9) % 256) (h18 : z16 = ((a0 + (3 : Int))) % 4294967296) (h19 : z17 = z16 / 16777216) (h20 : z18 = z16 / 65536) : z16 / 65536 = z18 := by omega

theorem o20 (a0 z2 z3 z4 z5 z6 z7 z8 z9 z10 z11 z12 z13 z14 z15 z16 z17 z18 z19 : Int) (h0 : (-9223372036854775808 : Int) ≤ a0) (h1 : a0 ≤ (9223372036854775807 : Int)) (h2 : ¬ (549755813888 : Int) < a0) (h3 : (0 : Int) < a0) (h4 : z2 = (a0) % 4294967296) (h5 : z3 = z2 / 16777216) (h6 : z4 = z2 / 65536) (h7 : z5 = (z4) % 256) (h8 : z6 = z2 / 256) (h9 : z7 = (z6) % 256) (h10 : z8 = (z2) % 256) (h11 : z9 = ((a0 + (1 : Int))) % 4294967296) (h12 : z10 = z9 / 16777216) (h13 : z11 = z9 / 65536) (h14 : z12 = (z11) % 256) (h15 : z13 = z9 / 256) (h16 : z14 = (z13) % 256) (h17 : z15 = (z9) % 256) (h18 : z16 = ((a0 + (3 : Int))) % 4294967296) (h19 : z17 = z16 / 16777216) (h20 : z18 = z16 / 65536) (h21 : z19 = (z18) % 256) : (z18) % 256 = z19 := by omega

theorem o21 (a0 z2 z3 z4 z5 z6 z7 z8 z9 z10 z11 z12 z13 z14 z15 z16 z17 z18 z19 z20 : Int) (h0 : (-9223372036854775808 : Int) ≤ a0) (h1 : a0 ≤ (9223372036854775807 : Int)) (h2 : ¬ (549755813888 : Int) < a0) (h3 : (0 : Int) < a0) (h4 : z2 = (a0) % 4294967296) (h5 : z3 = z2 / 16777216) (h6 : z4 = z2 / 65536) (h7 : z5 = (z4) % 256) (h8 : z6 = z2 / 256) (h9 : z7 = (z6) % 256) (h10 : z8 = (z2) % 256) (h11 : z9 = ((a0 + (1 : Int))) % 4294967296) (h12 : z10 = z9 / 16777216) (h13 : z11 = z9 / 65536) (h14 : z12 = (z11) % 256) (h15 : z13 = z9 / 256) (h16 : z14 = (z13) % 256) (h17 : z15 = (z9) % 256) (h18 : z16 = ((a0 + (3 : Int))) % 4294967296) (h19 : z17 = z16 / 16777216) (h20 : z18 = z16 / 65536) (h21 : z19 = (z18) % 256) (h22 : z20 = z16 / 256) : z16 / 256 = z20 := by omega

theorem o22 (a0 z2 z3 z4 z5 z6 z7 z8 z9 z10 z11 z12 z13 z14 z15 z16 z17 z18 z19 z20 z21 : Int) (h0 : (-9223372036854775808 : Int) ≤ a0) (h1 : a0 ≤ (9223372036854775807 : Int)) (h2 : ¬ (549755813888 : Int) < a0) (h3 : (0 : Int) < a0) (h4 : z2 = (a0) % 4294967296) (h5 : z3 = z2 / 16777216) (h6 : z4 = z2 / 65536) (h7 : z5 = (z4) % 256) (h8 : z6 = z2 / 256) (h9 : z7 = (z6) % 256) (h10 : z8 = (z2) % 256) (h11 : z9 = ((a0 + (1 : Int))) % 4294967296) (h12 : z10 = z9 / 16777216) (h13 : z11 = z9 / 65536) (h14 : z12 = (z11) % 256) (h15 : z13 = z9 / 256) (h16 : z14 = (z13) % 256) (h17 : z15 = (z9) % 256) (h18 : z16 = ((a0 + (3 : Int))) % 4294967296) (h19 : z17 = z16 / 16777216) (h20 : z18 = z16 / 65536) (h21 : z19 = (z18) % 256) (h22 : z20 = z16 / 256) (h23 : z21 = (z20) % 256) : (z20) % 256 = z21 := by omega

theorem o23 (a0 z2 z3 z4 z5 z6 z7 z8 z9 z10 z11 z12 z13 z14 z15 z16 z17 z18 z19 z20 z21 z22 : Int) (h0 : (-9223372036854775808 : Int) ≤ a0) (h1 : a0 ≤ (9223372036854775807 : Int)) (h2 : ¬ (549755813888 : Int) < a0) (h3 : (0 : Int) < a0) (h4 : z2 = (a0) % 4294967296) (h5 : z3 = z2 / 16777216) (h6 : z4 = z2 / 65536) (h7 : z5 = (z4) % 256) (h8 : z6 = z2 / 256) (h9 : z7 = (z6) % 256) (h10 : z8 = (z2) % 256) (h11 : z9 = ((a0 + (1 : Int))) % 4294967296) (h12 : z10 = z9 / 16777216) (h13 : z11 = z9 / 65536) (h14 : z12 = (z11) % 256) (h15 : z13 = z9 / 256) (h16 : z14 = (z13) % 256) (h17 : z15 = (z9) % 256) (h18 : z16 = ((a0 + (3 : Int))) % 4294967296) (h19 : z17 = z16 / 16777216) (h20 : z18 = z16 / 65536) (h21 : z19 = (z18) % 256) (h22 : z20 = z16 / 256) (h23 : z21 = (z20) % 256) (h24 : z22 = (z16) % 256) : (z16) % 256 = z22 := by omega

theorem o24 (a0 z2 z3 z4 z5 z6 z7 z8 z9 z10 z11 z12 z13 z14 z15 z16 z17 z18 z19 z20 z21 z22 z23 : Int) (h0 : (-9223372036854775808 : Int) ≤ a0) (h1 : a0 ≤ (9223372036854775807 : Int)) (h2 : ¬ (549755813888 : Int) < a0) (h3 : (0 : Int) < a0) (h4 : z2 = (a0) % 4294967296) (h5 : z3 = z2 / 16777216) (h6 : z4 = z2 / 65536) (h7 : z5 = (z4) % 256) (h8 : z6 = z2 / 256) (h9 : z7 = (z6) % 256) (h10 : z8 = (z2) % 256) (h11 : z9 = ((a0 + (1 : Int))) % 4294967296) (h12 : z10 = z9 / 16777216) (h13 : z11 = z9 / 65536) (h14 : z12 = (z11) % 256) (h15 : z13 = z9 / 256) (h16 : z14 = (z13) % 256) (h17 : z15 = (z9) % 256) (h18 : z16 = ((a0 + (3 : Int))) % 4294967296) (h19 : z17 = z16 / 16777216) (h20 : z18 = z16 / 65536) (h21 : z19 = (z18) % 256) (h22 : z20 = z16 / 256) (h23 : z21 = (z20) % 256) (h24 : z22 = (z16) % 256) (h25 : z23 = ((a0 + (7 : Int))) % 4294967296) : ((a0 + (7 : Int))) % 4294967296 = z23 := by omega

theorem o25 (a0 z2 z3 z4 z5 z6 z7 z8 z9 z10 z11 z12 z13 z14 z15 z16 z17 z18 z19 z20 z21 z22 z23 z24 : Int) (h0 : (-9223372036854775808 : Int) ≤ a0) (h1 : a0 ≤ (9223372036854775807 : Int)) (h2 : ¬ (549755813888 : Int) < a0) (h3 : (0 : Int) < a0) (h4 : z2 = (a0) % 4294967296) (h5 : z3 = z2 / 16777216) (h6 : z4 = z2 / 65536) (h7 : z5 = (z4) % 256) (h8 : z6 = z2 / 256) (h9 : z7 = (z6) % 256) (h10 : z8 = (z2) % 256) (h11 : z9 = ((a0 + (1 : Int))) % 4294967296) (h12 : z10 = z9 / 16777216) (h13 : z11 = z9 / 65536) (h14 : z12 = (z11) % 256) (h15 : z13 = z9 / 256) (h16 : z14 = (z13) % 256) (h17 : z15 = (z9) % 256) (h18 : z16 = ((a0 + (3 : Int))) % 4294967296) (h19 : z17 = z16 / 16777216) (h20 : z18 = z16 / 65536) (h21 : z19 = (z18) % 256) (h22 : z20 = z16 / 256) (h23 : z21 = (z20) % 256) (h24 : z22 = (z16) % 256) (h25 : z23 = ((a0 + (7 : Int))) % 4294967296) (h26 : z24 = z23 / 16777216) : z23 / 16777216 = z24 := by omega

theorem o26 (a0 z2 z3 z4 z5 z6 z7 z8 z9 z10 z11 z12 z13 z14 z15 z16 z17 z18 z19 z20 z21 z22 z23 z24 : Int) (h0 : (-9223372036854775808 : Int) ≤ a0) (h1 : a0 ≤ (9223372036854775807 : Int)) (h2 : ¬ (549755813888 : Int) < a0) (h3 : (0 : Int) < a0) (h4 : z2 = (a0) % 4294967296) (h5 : z3 = z2 / 16777216) (h6 : z4 = z2 / 65536) (h7 : z5 = (z4) % 256) (h8 : z6 = z2 / 256) (h9 : z7 = (z6) % 256) (h10 : z8 = (z2) % 256) (h11 : z9 = ((a0 + (1 : Int))) % 4294967296) (h12 : z10 = z9 / 16777216) (h13 : z11 = z9 / 65536) (h14 : z12 = (z11) % 256) (h15 : z13 = z9 / 256) (h16 : z14 = (z13) % 256) (h17 : z15 = (z9) % 256) (h18 : z16 = ((a0 + (3 : Int))) % 4294967296) (h19 : z17 = z16 / 16777216) (h20 : z18 = z16 / 65536) (h21 : z19 = (z18) % 256) (h22 : z20 = z16 / 256) (h23 : z21 = (z20) % 256) (h24 : z22 = (z16) % 256) (h25 : z23 = ((a0 + (7 : Int))) % 4294967296) (h26 : z24 = z23 / 16777216) : (z24) % 256 = z24 := by omega

theorem o27 (a0 z2 z3 z4 z5 z6 z7 z8 z9 z10 z11 z12 z13 z14 z15 z16 z17 z18 z19 z20 z21 z22 z23 z24 z25 : Int) (h0 : (-9223372036854775808 : Int) ≤ a0) (h1 : a0 ≤ (9223372036854775807 : Int)) (h2 : ¬ (549755813888 : Int) < a0) (h3 : (0 : Int) < a0) (h4 : z2 = (a0) % 4294967296) (h5 : z3 = z2 / 16777216) (h6 : z4 = z2 / 65536) (h7 : z5 = (z4) % 256) (h8 : z6 = z2 / 256) (h9 : z7 = (z6) % 256) (h10 : z8 = (z2) % 256) (h11 : z9 = ((a0 + (1 : Int))) % 4294967296) (h12 : z10 = z9 / 16777216) (h13 : z11 = z9 / 65536) (h14 : z12 = (z11) % 256) (h15 : z13 = z9 / 256) (h16 : z14 = (z13) % 256) (h17 : z15 = (z9) % 256) (h18 : z16 = ((a0 + (3 : Int))) % 4294967296) (h19 : z17 = z16 / 16777216) (h20 : z18 = z16 / 65536) (h21 : z19 = (z18) % 256) (h22 : z20 = z16 / 256) (h23 : z21 = (z20) % 256) (h24 : z22 = (z16) % 256) (h25 : z23 = ((a0 + (7 : Int))) % 4294967296) (h26 : z24 = z23 / 16777216) (h27 : z25 = z23 / 65536) : z23 / 65536 = z25 := by omega

theorem o28 (a0 z2 z3 z4 z5 z6 z7 z8 z9 z10 z11 z12 z13 z14 z15 z16 z17 z18 z19 z20 z21 z22 z23 z24 z25 z26 : Int) (h0 : (-9223372036854775808 : Int) ≤ a0) (h1 : a0 ≤ (9223372036854775807 : Int)) (h2 : ¬ (549755813888 : Int) < a0) (h3 : (0 : Int) < a0) (h4 : z2 = (a0) % 4294967296) (h5 : z3 = z2 / 16777216) (h6 : z4 = z2 / 65536) (h7 : z5 = (z4) % 256) (h8 : z6 = z2 / 256) (h9 : z7 = (z6) % 256) (h10 : z8 = (z2) % 256) (h11 : z9 = ((a0 + (1 : Int))) % 4294967296) (h12 : z10 = z9 / 16777216) (h13 : z11 = z9 / 65536) (h14 : z12 = (z11) % 256) (h15 : z13 = z9 / 256) (h16 : z14 = (z13) % 256) (h17 : z15 = (z9) % 256) (h18 : z16 = ((a0 + (3 : Int))) % 4294967296) (h19 : z17 = z16 / 16777216) (h20 : z18 = z16 / 65536) (h21 : z19 = (z18) % 256) (h22 : z20 = z16 / 256) (h23 : z21 = (z20) % 256) (h24 : z22 = (z16) % 256) (h25 : z23 = ((a0 + (7 : Int))) % 4294967296) (h26 : z24 = z23 / 16777216) (h27 : z25 = z23 / 65536) (h28 : z26 = (z25) % 256) : (z25) % 256 = z26 := by omega

theorem o29 (a0 z2 z3 z4 z5 z6 z7 z8 z9 z10 z11 z12 z13 z14 z15 z16 z17 z18 z19 z20 z21 z22 z23 z24 z25 z26 z27 : Int) (h0 : (-9223372036854775808 : Int) ≤ a0) (h1 : a0 ≤ (9223372036854775807 : Int)) (h2 : ¬ (549755813888 : Int) < a0) (h3 : (0 : Int) < a0) (h4 : z2 = (a0) % 4294967296) (h5 : z3 = z2 / 16777216) (h6 : z4 = z2 / 65536) (h7 : z5 = (z4) % 256) (h8 : z6 = z2 / 256) (h9 : z7 = (z6) % 256) (h10 : z8 = (z2) % 256) (h11 : z9 = ((a0 + (1 : Int))) % 4294967296) (h12 : z10 = z9 / 16777216) (h13 : z11 = z9 / 65536) (h14 : z12 = (z11) % 256) (h15 : z13 = z9 / 256) (h16 : z14 = (z13) % 256) (h17 : z15 = (z9) % 256) (h18 : z16 = ((a0 + (3 : Int))) % 4294967296) (h19 : z17 = z16 / 16777216) (h20 : z18 = z16 / 65536) (h21 : z19 = (z18) % 256) (h22 : z20 = z16 / 256) (h23 : z21 = (z20) % 256) (h24 : z22 = (z16) % 256) (h25 : z23 = ((a0 + (7 : Int))) % 4294967296) (h26 : z24 = z23 / 16777216) (h27 : z25 = z23 / 65536) (h28 : z26 = (z25) % 256) (h29 : z27 = z23 / 256) : z23 / 256 = z27 := by omega

theorem o30 (a0 z2 z3 z4 z5 z6 z7 z8 z9 z10 z11 z12 z13 z14 z15 z16 z17 z18 z19 z20 z21 z22 z23 z24 z25 z26 z27 z28 : Int) (h0 : (-9223372036854775808 : Int) ≤ a0) (h1 : a0 ≤ (9223372036854775807 : Int)) (h2 : ¬ (549755813888 : Int) < a0) (h3 : (0 : Int) < a0) (h4 : z2 = (a0) % 4294967296) (h5 : z3 = z2 / 16777216) (h6 : z4 = z2 / 65536) (h7 : z5 = (z4) % 256) (h8 : z6 = z2 / 256) (h9 : z7 = (z6) % 256) (h10 : z8 = (z2) % 256) (h11 : z9 = ((a0 + (1 : Int))) % 4294967296) (h12 : z10 = z9 / 16777216) (h13 : z11 = z9 / 65536) (h14 : z12 = (z11) % 256) (h15 : z13 = z9 / 256) (h16 : z14 = (z13) % 256) (h17 : z15 = (z9) % 256) (h18 : z16 = ((a0 + (3 : Int))) % 4294967296) (h19 : z17 = z16 / 16777216) (h20 : z18 = z16 / 65536) (h21 : z19 = (z18) % 256) (h22 : z20 = z16 / 256) (h23 : z21 = (z20) % 256) (h24 : z22 = (z16) % 256) (h25 : z23 = ((a0 + (7 : Int))) % 4294967296) (h26 : z24 = z23 / 16777216) (h27 : z25 = z23 / 65536) (h28 : z26 = (z25) % 256) (h29 : z27 = z23 / 256) (h30 : z28 = (z27) % 256) : (z27) % 256 = z28 := by omega

theorem o31 (a0 z2 z3 z4 z5 z6 z7 z8 z9 z10 z11 z12 z13 z14 z15 z16 z17 z18 z19 z20 z21 z22 z23 z24 z25 z26 z27 z28 z29 : Int) (h0 : (-9223372036854775808 : Int) ≤ a0) (h1 : a0 ≤ (9223372036854775807 : Int)) (h2 : ¬ (549755813888 : Int) < a0) (h3 : (0 : Int) < a0) (h4 : z2 = (a0) % 4294967296) (h5 : z3 = z2 / 16777216) (h6 : z4 = z2 / 65536) (h7 : z5 = (z4) % 256) (h8 : z6 = z2 / 256) (h9 : z7 = (z6) % 256) (h10 : z8 = (z2) % 256) (h11 : z9 = ((a0 + (1 : Int))) % 4294967296) (h12 : z10 = z9 / 16777216) (h13 : z11 = z9 / 65536) (h14 : z12 = (z11) % 256) (h15 : z13 = z9 / 256) (h16 : z14 = (z13) % 256) (h17 : z15 = (z9) % 256) (h18 : z16 = ((a0 + (3 : Int))) % 4294967296) (h19 : z17 = z16 / 16777216) (h20 : z18 = z16 / 65536) (h21 : z19 = (z18) % 256) (h22 : z20 = z16 / 256) (h23 : z21 = (z20) % 256) (h24 : z22 = (z16) % 256) (h25 : z23 = ((a0 + (7 : Int))) % 4294967296) (h26 : z24 = z23 / 16777216) (h27 : z25 = z23 / 65536) (h28 : z26 = (z25) % 256) (h29 : z27 = z23 / 256) (h30 : z28 = (z27) % 256) (h31 : z29 = (z23) % 256) : (z23) % 256 = z29 := by omega

theorem o32 (a0 z2 z3 z4 z5 z6 z7 z8 z9 z10 z11 z12 z13 z14 z15 z16 z17 z18 z19 z20 z21 z22 z23 z24 z25 z26 z27 z28 z29 z30 : Int) (h0 : (-9223372036854775808 : Int) ≤ a0) (h1 : a0 ≤ (9223372036854775807 : Int)) (h2 : ¬ (549755813888 : Int) < a0) (h3 : (0 : Int) < a0) (h4 : z2 = (a0) % 4294967296) (h5 : z3 = z2 / 16777216) (h6 : z4 = z2 / 65536) (h7 : z5 = (z4) % 256) (h8 : z6 = z2 / 256) (h9 : z7 = (z6) % 256) (h10 : z8 = (z2) % 256) (h11 : z9 = ((a0 + (1 : Int))) % 4294967296) (h12 : z10 = z9 / 16777216) (h13 : z11 = z9 / 65536) (h14 : z12 = (z11) % 256) (h15 : z13 = z9 / 256) (h16 : z14 = (z13) % 256) (h17 : z15 = (z9) % 256) (h18 : z16 = ((a0 + (3 : Int))) % 4294967296) (h19 : z17 = z16 / 16777216) (h20 : z18 = z16 / 65536) (h21 : z19 = (z18) % 256) (h22 : z20 = z16 / 256) (h23 : z21 = (z20) % 256) (h24 : z22 = (z16) % 256) (h25 : z23 = ((a0 + (7 : Int))) % 4294967296) (h26 : z24 = z23 / 16777216) (h27 : z25 = z23 / 65536) (h28 : z26 = (z25) % 256) (h29 : z27 = z23 / 256) (h30 : z28 = (z27) % 256) (h31 : z29 = (z23) % 256) (h32 : z30 = ((a0 + (15 : Int))) % 4294967296) : ((a0 + (15 : Int))) % 4294967296 = z30 := by omega

theorem o33 (a0 z2 z3 z4 z5 z6 z7 z8 z9 z10 z11 z12 z13 z14 z15 z16 z17 z18 z19 z20 z21 z22 z23 z24 z25 z26 z27 z28 z29 z30 z31 : Int) (h0 : (-9223372036854775808 : Int) ≤ a0) (h1 : a0 ≤ (9223372036854775807 : Int)) (h2 : ¬ (549755813888 : Int) < a0) (h3 : (0 : Int) < a0) (h4 : z2 = (a0) % 4294967296) (h5 : z3 = z2 / 16777216) (h6 : z4 = z2 / 65536) (h7 : z5 = (z4) % 256) (h8 : z6 = z2 / 256) (h9 : z7 = (z6) % 256) (h10 : z8 = (z2) % 256) (h11 : z9 = ((a0 + (1 : Int))) % 4294967296) (h12 : z10 = z9 / 16777216) (h13 : z11 = z9 / 65536) (h14 : z12 = (z11) % 256) (h15 : z13 = z9 / 256) (h16 : z14 = (z13) % 256) (h17 : z15 = (z9) % 256) (h18 : z16 = ((a0 + (3 : Int))) % 4294967296) (h19 : z17 = z16 / 16777216) (h20 : z18 = z16 / 65536) (h21 : z19 = (z18) % 256) (h22 : z20 = z16 / 256) (h23 : z21 = (z20) % 256) (h24 : z22 = (z16) % 256) (h25 : z23 = ((a0 + (7 : Int))) % 4294967296) (h26 : z24 = z23 / 16777216) (h27 : z25 = z23 / 65536) (h28 : z26 = (z25) % 256) (h29 : z27 = z23 / 256) (h30 : z28 = (z27) % 256) (h31 : z29 = (z23) % 256) (h32 : z30 = ((a0 + (15 : Int))) % 4294967296) (h33 : z31 = z30 / 16777216) : z30 / 16777216 = z31 := by omega

theorem o34 (a0 z2 z3 z4 z5 z6 z7 z8 z9 z10 z11 z12 z13 z14 z15 z16 z17 z18 z19 z20 z21 z22 z23 z24 z25 z26 z27 z28 z29 z30 z31 : Int) (h0 : (-9223372036854775808 : Int) ≤ a0) (h1 : a0 ≤ (9223372036854775807 : Int)) (h2 : ¬ (549755813888 : Int) < a0) (h3 : (0 : Int) < a0) (h4 : z2 = (a0) % 4294967296) (h5 : z3 = z2 / 16777216) (h6 : z4 = z2 / 65536) (h7 : z5 = (z4) % 256) (h8 : z6 = z2 / 256) (h9 : z7 = (z6) % 256) (h10 : z8 = (z2) % 256) (h11 : z9 = ((a0 + (1 : Int))) % 4294967296) (h12 : z10 = z9 / 16777216) (h13 : z11 = z9 / 65536) (h14 : z12 = (z11) % 256) (h15 : z13 = z9 / 256) (h16 : z14 = (z13) % 256) (h17 : z15 = (z9) % 256) (h18 : z16 = ((a0 + (3 : Int))) % 4294967296) (h19 : z17 = z16 / 16777216) (h20 : z18 = z16 / 65536) (h21 : z19 = (z18) % 256) (h22 : z20 = z16 / 256) (h23 : z21 = (z20) % 256) (h24 : z22 = (z16) % 256) (h25 : z23 = ((a0 + (7 : Int))) % 4294967296) (h26 : z24 = z23 / 16777216) (h27 : z25 = z23 / 65536) (h28 : z26 = (z25) % 256) (h29 : z27 = z23 / 256) (h30 : z28 = (z27) % 256) (h31 : z29 = (z23) % 256) (h32 : z30 = ((a0 + (15 : Int))) % 4294967296) (h33 : z31 = z30 / 16777216) : (z31) % 256 = z31 := by omega

theorem o35 (a0 z2 z3 z4 z5 z6 z7 z8 z9 z10 z11 z12 z13 z14 z15 z16 z17 z18 z19 z20 z21 z22 z23 z24 z25 z26 z27 z28 z29 z30 z31 z32 : Int) (h0 : (-9223372036854775808 : Int) ≤ a0) (h1 : a0 ≤ (9223372036854775807 : Int)) (h2 : ¬ (549755813888 : Int) < a0) (h3 : (0 : Int) < a0) (h4 : z2 = (a0) % 4294967296) (h5 : z3 = z2 / 16777216) (h6 : z4 = z2 / 65536) (h7 : z5 = (z4) % 256) (h8 : z6 = z2 / 256) (h9 : z7 = (z6) % 256) (h10 : z8 = (z2) % 256) (h11 : z9 = ((a0 + (1 : Int))) % 4294967296) (h12 : z10 = z9 / 16777216) (h13 : z11 = z9 / 65536) (h14 : z12 = (z11) % 256) (h15 : z13 = z9 / 256) (h16 : z14 = (z13) % 256) (h17 : z15 = (z9) % 256) (h18 : z16 = ((a0 + (3 : Int))) % 4294967296) (h19 : z17 = z16 / 16777216) (h20 : z18 = z16 / 65536) (h21 : z19 = (z18) % 256) (h22 : z20 = z16 / 256) (h23 : z21 = (z20) % 256) (h24 : z22 = (z16) % 256) (h25 : z23 = ((a0 + (7 : Int))) % 4294967296) (h26 : z24 = z23 / 16777216) (h27 : z25 = z23 / 65536) (h28 : z26 = (z25) % 256) (h29 : z27 = z23 / 256) (h30 : z28 = (z27) % 256) (h31 : z29 = (z23) % 256) (h32 : z30 = ((a0 + (15 : Int))) % 4294967296) (h33 : z31 = z30 / 16777216) (h34 : z32 = z30 / 65536) : z30 / 65536 = z32 := by omega

theorem o36 (a0 z2 z3 z4 z5 z6 z7 z8 z9 z10 z11 z12 z13 z14 z15 z16 z17 z18 z19 z20 z21 z22 z23 z24 z25 z26 z27 z28 z29 z30 z31 z32 z33 : Int) (h0 : (-9223372036854775808 : Int) ≤ a0) (h1 : a0 ≤ (9223372036854775807 : Int)) (h2 : ¬ (549755813888 : Int) < a0) (h3 : (0 : Int) < a0) (h4 : z2 = (a0) % 4294967296) (h5 : z3 = z2 / 16777216) (h6 : z4 = z2 / 65536) (h7 : z5 = (z4) % 256) (h8 : z6 = z2 / 256) (h9 : z7 = (z6) % 256) (h10 : z8 = (z2) % 256) (h11 : z9 = ((a0 + (1 : Int))) % 4294967296) (h12 : z10 = z9 / 16777216) (h13 : z11 = z9 / 65536) (h14 : z12 = (z11) % 256) (h15 : z13 = z9 / 256) (h16 : z14 = (z13) % 256) (h17 : z15 = (z9) % 256) (h18 : z16 = ((a0 + (3 : Int))) % 4294967296) (h19 : z17 = z16 / 16777216) (h20 : z18 = z16 / 65536) (h21 : z19 = (z18) % 256) (h22 : z20 = z16 / 256) (h23 : z21 = (z20) % 256) (h24 : z22 = (z16) % 256) (h25 : z23 = ((a0 + (7 : Int))) % 4294967296) (h26 : z24 = z23 / 16777216) (h27 : z25 = z23 / 65536) (h28 : z26 = (z25) % 256) (h29 : z27 = z23 / 256) (h30 : z28 = (z27) % 256) (h31 : z29 = (z23) % 256) (h32 : z30 = ((a0 + (15 : Int))) % 4294967296) (h33 : z31 = z30 / 16777216) (h34 : z32 = z30 / 65536) (h35 : z33 = (z32) % 256) : (z32) % 256 = z33 := by omega

theorem o37 (a0 z2 z3 z4 z5 z6 z7 z8 z9 z10 z11 z12 z13 z14 z15 z16 z17 z18 z19 z20 z21 z22 z23 z24 z25 z26 z27 z28 z29 z30 z31 z32 z33 z34 : Int) (h0 : (-9223372036854775808 : Int) ≤ a0) (h1 : a0 ≤ (9223372036854775807 : Int)) (h2 : ¬ (549755813888 : Int) < a0) (h3 : (0 : Int) < a0) (h4 : z2 = (a0) % 4294967296) (h5 : z3 = z2 / 16777216) (h6 : z4 = z2 / 65536) (h7 : z5 = (z4) % 256) (h8 : z6 = z2 / 256) (h9 : z7 = (z6) % 256) (h10 : z8 = (z2) % 256) (h11 : z9 = ((a0 + (1 : Int))) % 4294967296) (h12 : z10 = z9 / 16777216) (h13 : z11 = z9 / 65536) (h14 : z12 = (z11) % 256) (h15 : z13 = z9 / 256) (h16 : z14 = (z13) % 256) (h17 : z15 = (z9) % 256) (h18 : z16 = ((a0 + (3 : Int))) % 4294967296) (h19 : z17 = z16 / 16777216) (h20 : z18 = z16 / 65536) (h21 : z19 = (z18) % 256) (h22 : z20 = z16 / 256) (h23 : z21 = (z20) % 256) (h24 : z22 = (z16) % 256) (h25 : z23 = ((a0 + (7 : Int))) % 4294967296) (h26 : z24 = z23 / 16777216) (h27 : z25 = z23 / 65536) (h28 : z26 = (z25) % 256) (h29 : z27 = z23 / 256) (h30 : z28 = (z27) % 256) (h31 : z29 = (z23) % 256) (h32 : z30 = ((a0 + (15 : Int))) % 4294967296) (h33 : z31 = z30 / 16777216) (h34 : z32 = z30 / 65536) (h35 : z33 = (z32) % 256) (h36 : z34 = z30 / 256) : z30 / 256 = z34 := by omega

theorem o38 (a0 z2 z3 z4 z5 z6 z7 z8 z9 z10 z11 z12 z13 z14 z15 z16 z17 z18 z19 z20 z21 z22 z23 z24 z25 z26 z27 z28 z29 z30 z31 z32 z33 z34 z35 : Int) (h0 : (-9223372036854775808 : Int) ≤ a0) (h1 : a0 ≤ (9223372036854775807 : Int)) (h2 : ¬ (549755813888 : Int) < a0) (h3 : (0 : Int) < a0) (h4 : z2 = (a0) % 4294967296) (h5 : z3 = z2 / 16777216) (h6 : z4 = z2 / 65536) (h7 : z5 = (z4) % 256) (h8 : z6 = z2 / 256) (h9 : z7 = (z6) % 256) (h10 : z8 = (z2) % 256) (h11 : z9 = ((a0 + (1 : Int))) % 4294967296) (h12 : z10 = z9 / 16777216) (h13 : z11 = z9 / 65536) (h14 : z12 = (z11) % 256) (h15 : z13 = z9 / 256) (h16 : z14 = (z13) % 256) (h17 : z15 = (z9) % 256) (h18 : z16 = ((a0 + (3 : Int))) % 4294967296) (h19 : z17 = z16 / 16777216) (h20 : z18 = z16 / 65536) (h21 : z19 = (z18) % 256) (h22 : z20 = z16 / 256) (h23 : z21 = (z20) % 256) (h24 : z22 = (z16) % 256) (h25 : z23 = ((a0 + (7 : Int))) % 4294967296) (h26 : z24 = z23 / 16777216) (h27 : z25 = z23 / 65536) (h28 : z26 = (z25) % 256) (h29 : z27 = z23 / 256) (h30 : z28 = (z27) % 256) (h31 : z29 = (z23) % 256) (h32 : z30 = ((a0 + (15 : Int))) % 4294967296) (h33 : z31 = z30 / 16777216) (h34 : z32 = z30 / 65536) (h35 : z33 = (z32) % 256) (h36 : z34 = z30 / 256) (h37 : z35 = (z34) % 256) : (z34) % 256 = z35 := by omega

theorem o39 (a0 z2 z3 z4 z5 z6 z7 z8 z9 z10 z11 z12 z13 z14 z15 z16 z17 z18 z19 z20 z21 z22 z23 z24 z25 z26 z27 z28 z29 z30 z31 z32 z33 z34 z35 z36 : Int) (h0 : (-9223372036854775808 : Int) ≤ a0) (h1 : a0 ≤ (9223372036854775807 : Int)) (h2 : ¬ (549755813888 : Int) < a0) (h3 : (0 : Int) < a0) (h4 : z2 = (a0) % 4294967296) (h5 : z3 = z2 / 16777216) (h6 : z4 = z2 / 65536) (h7 : z5 = (z4) % 256) (h8 : z6 = z2 / 256) (h9 : z7 = (z6) % 256) (h10 : z8 = (z2) % 256) (h11 : z9 = ((a0 + (1 : Int))) % 4294967296) (h12 : z10 = z9 / 16777216) (h13 : z11 = z9 / 65536) (h14 : z12 = (z11) % 256) (h15 : z13 = z9 / 256) (h16 : z14 = (z13) % 256) (h17 : z15 = (z9) % 256) (h18 : z16 = ((a0 + (3 : Int))) % 4294967296) (h19 : z17 = z16 / 16777216) (h20 : z18 = z16 / 65536) (h21 : z19 = (z18) % 256) (h22 : z20 = z16 / 256) (h23 : z21 = (z20) % 256) (h24 : z22 = (z16) % 256) (h25 : z23 = ((a0 + (7 : Int))) % 4294967296) (h26 : z24 = z23 / 16777216) (h27 : z25 = z23 / 65536) (h28 : z26 = (z25) % 256) (h29 : z27 = z23 / 256) (h30 : z28 = (z27) % 256) (h31 : z29 = (z23) % 256) (h32 : z30 = ((a0 + (15 : Int))) % 4294967296) (h33 : z31 = z30 / 16777216) (h34 : z32 = z30 / 65536) (h35 : z33 = (z32) % 256) (h36 : z34 = z30 / 256) (h37 : z35 = (z34) % 256) (h38 : z36 = (z30) % 256) : (z30) % 256 = z36 := by omega

theorem o40 (a0 z2 z3 z4 z5 z6 z7 z8 z9 z10 z11 z12 z13 z14 z15 z16 z17 z18 z19 z20 z21 z22 z23 z24 z25 z26 z27 z28 z29 z30 z31 z32 z33 z34 z35 z36 z37 : Int) (h0 : (-9223372036854775808 : Int) ≤ a0) (h1 : a0 ≤ (9223372036854775807 : Int)) (h2 : ¬ (549755813888 : Int) < a0) (h3 : (0 : Int) < a0) (h4 : z2 = (a0) % 4294967296) (h5 : z3 = z2 / 16777216) (h6 : z4 = z2 / 65536) (h7 : z5 = (z4) % 256) (h8 : z6 = z2 / 256) (h9 : z7 = (z6) % 256) (h10 : z8 = (z2) % 256) (h11 : z9 = ((a0 + (1 : Int))) % 4294967296) (h12 : z10 = z9 / 16777216) (h13 : z11 = z9 / 65536) (h14 : z12 = (z11) % 256) (h15 : z13 = z9 / 256) (h16 : z14 = (z13) % 256) (h17 : z15 = (z9) % 256) (h18 : z16 = ((a0 + (3 : Int))) % 4294967296) (h19 : z17 = z16 / 16777216) (h20 : z18 = z16 / 65536) (h21 : z19 = (z18) % 256) (h22 : z20 = z16 / 256) (h23 : z21 = (z20) % 256) (h24 : z22 = (z16) % 256) (h25 : z23 = ((a0 + (7 : Int))) % 4294967296) (h26 : z24 = z23 / 16777216) (h27 : z25 = z23 / 65536) (h28 : z26 = (z25) % 256) (h29 : z27 = z23 / 256) (h30 : z28 = (z27) % 256) (h31 : z29 = (z23) % 256) (h32 : z30 = ((a0 + (15 : Int))) % 4294967296) (h33 : z31 = z30 / 16777216) (h34 : z32 = z30 / 65536) (h35 : z33 = (z32) % 256) (h36 : z34 = z30 / 256) (h37 : z35 = (z34) % 256) (h38 : z36 = (z30) % 256) (h39 : z37 = ((a0 + (31 : Int))) % 4294967296) : ((a0 + (31 : Int))) % 4294967296 = z37 := by omega

theorem o41 (a0 z2 z3 z4 z5 z6 z7 z8 z9 z10 z11 z12 z13 z14 z15 z16 z17 z18 z19 z20 z21 z22 z23 z24 z25 z26 z27 z28 z29 z30 z31 z32 z33 z34 z35 z36 z37 z38 : Int) (h0 : (-9223372036854775808 : Int) ≤ a0) (h1 : a0 ≤ (9223372036854775807 : Int)) (h2 : ¬ (549755813888 : Int) < a0) (h3 : (0 : Int) < a0) (h4 : z2 = (a0) % 4294967296) (h5 : z3 = z2 / 16777216) (h6 : z4 = z2 / 65536) (h7 : z5 = (z4) % 256) (h8 : z6 = z2 / 256) (h9 : z7 = (z6) % 256) (h10 : z8 = (z2) % 256) (h11 : z9 = ((a0 + (1 : Int))) % 4294967296) (h12 : z10 = z9 / 16777216) (h13 : z11 = z9 / 65536) (h14 : z12 = (z11) % 256) (h15 : z13 = z9 / 256) (h16 : z14 = (z13) % 256) (h17 : z15 = (z9) % 256) (h18 : z16 = ((a0 + (3 : Int))) % 4294967296) (h19 : z17 = z16 / 16777216) (h20 : z18 = z16 / 65536) (h21 : z19 = (z18) % 256) (h22 : z20 = z16 / 256) (h23 : z21 = (z20) % 256) (h24 : z22 = (z16) % 256) (h25 : z23 = ((a0 + (7 : Int))) % 4294967296) (h26 : z24 = z23 / 16777216) (h27 : z25 = z23 / 65536) (h28 : z26 = (z25) % 256) (h29 : z27 = z23 / 256) (h30 : z28 = (z27) % 256) (h31 : z29 = (z23) % 256) (h32 : z30 = ((a0 + (15 : Int))) % 4294967296) (h33 : z31 = z30 / 16777216) (h34 : z32 = z30 / 65536) (h35 : z33 = (z32) % 256) (h36 : z34 = z30 / 256) (h37 : z35 = (z34) % 256) (h38 : z36 = (z30) % 256) (h39 : z37 = ((a0 + (31 : Int))) % 4294967296) (h40 : z38 = z37 / 16777216) : z37 / 16777216 = z38 := by omega

theorem o42 (a0 z2 z3 z4 z5 z6 z7 z8 z9 z10 z11 z12 z13 z14 z15 z16 z17 z18 z19 z20 z21 z22 z23 z24 z25 z26 z27 z28 z29 z30 z31 z32 z33 z34 z35 z36 z37 z38 : Int) (h0 : (-9223372036854775808 : Int) ≤ a0) (h1 : a0 ≤ (9223372036854775807 : Int)) (h2 : ¬ (549755813888 : Int) < a0) (h3 : (0 : Int) < a0) (h4 : z2 = (a0) % 4294967296) (h5 : z3 = z2 / 16777216) (h6 : z4 = z2 / 65536) (h7 : z5 = (z4) % 256) (h8 : z6 = z2 / 256) (h9 : z7 = (z6) % 256) (h10 : z8 = (z2) % 256) (h11 : z9 = ((a0 + (1 : Int))) % 4294967296) (h12 : z10 = z9 / 16777216) (h13 : z11 = z9 / 65536) (h14 : z12 = (z11) % 256) (h15 : z13 = z9 / 256) (h16 : z14 = (z13) % 256) (h17 : z15 = (z9) % 256) (h18 : z16 = ((a0 + (3 : Int))) % 4294967296) (h19 : z17 = z16 / 16777216) (h20 : z18 = z16 / 65536) (h21 : z19 = (z18) % 256) (h22 : z20 = z16 / 256) (h23 : z21 = (z20) % 256) (h24 : z22 = (z16) % 256) (h25 : z23 = ((a0 + (7 : Int))) % 4294967296) (h26 : z24 = z23 / 16777216) (h27 : z25 = z23 / 65536) (h28 : z26 = (z25) % 256) (h29 : z27 = z23 / 256) (h30 : z28 = (z27) % 256) (h31 : z29 = (z23) % 256) (h32 : z30 = ((a0 + (15 : Int))) % 4294967296) (h33 : z31 = z30 / 16777216) (h34 : z32 = z30 / 65536) (h35 : z33 = (z32) % 256) (h36 : z34 = z30 / 256) (h37 : z35 = (z34) % 256) (h38 : z36 = (z30) % 256) (h39 : z37 = ((a0 + (31 : Int))) % 4294967296) (h40 : z38 = z37 / 16777216) : (z38) % 256 = z38 := by omega

theorem o43 (a0 z2 z3 z4 z5 z6 z7 z8 z9 z10 z11 z12 z13 z14 z15 z16 z17 z18 z19 z20 z21 z22 z23 z24 z25 z26 z27 z28 z29 z30 z31 z32 z33 z34 z35 z36 z37 z38 z39 : Int) (h0 : (-9223372036854775808 : Int) ≤ a0) (h1 : a0 ≤ (9223372036854775807 : Int)) (h2 : ¬ (549755813888 : Int) < a0) (h3 : (0 : Int) < a0) (h4 : z2 = (a0) % 4294967296) (h5 : z3 = z2 / 16777216) (h6 : z4 = z2 / 65536) (h7 : z5 = (z4) % 256) (h8 : z6 = z2 / 256) (h9 : z7 = (z6) % 256) (h10 : z8 = (z2) % 256) (h11 : z9 = ((a0 + (1 : Int))) % 4294967296) (h12 : z10 = z9 / 16777216) (h13 : z11 = z9 / 65536) (h14 : z12 = (z11) % 256) (h15 : z13 = z9 / 256) (h16 : z14 = (z13) % 256) (h17 : z15 = (z9) % 256) (h18 : z16 = ((a0 + (3 : Int))) % 4294967296) (h19 : z17 = z16 / 16777216) (h20 : z18 = z16 / 65536) (h21 : z19 = (z18) % 256) (h22 : z20 = z16 / 256) (h23 : z21 = (z20) % 256) (h24 : z22 = (z16) % 256) (h25 : z23 = ((a0 + (7 : Int))) % 4294967296) (h26 : z24 = z23 / 16777216) (h27 : z25 = z23 / 65536) (h28 : z26 = (z25) % 256) (h29 : z27 = z23 / 256) (h30 : z28 = (z27) % 256) (h31 : z29 = (z23) % 256) (h32 : z30 = ((a0 + (15 : Int))) % 4294967296) (h33 : z31 = z30 / 16777216) (h34 : z32 = z30 / 65536) (h35 : z33 = (z32) % 256) (h36 : z34 = z30 / 256) (h37 : z35 = (z34) % 256) (h38 : z36 = (z30) % 256) (h39 : z37 = ((a0 + (31 : Int))) % 4294967296) (h40 : z38 = z37 / 16777216) (h41 : z39 = z37 / 65536) : z37 / 65536 = z39 := by omega

theorem o44 (a0 z2 z3 z4 z5 z6 z7 z8 z9 z10 z11 z12 z13 z14 z15 z16 z17 z18 z19 z20 z21 z22 z23 z24 z25 z26 z27 z28 z29 z30 z31 z32 z33 z34 z35 z36 z37 z38 z39 z40 : Int) (h0 : (-9223372036854775808 : Int) ≤ a0) (h1 : a0 ≤ (9223372036854775807 : Int)) (h2 : ¬ (549755813888 : Int) < a0) (h3 : (0 : Int) < a0) (h4 : z2 = (a0) % 4294967296) (h5 : z3 = z2 / 16777216) (h6 : z4 = z2 / 65536) (h7 : z5 = (z4) % 256) (h8 : z6 = z2 / 256) (h9 : z7 = (z6) % 256) (h10 : z8 = (z2) % 256) (h11 : z9 = ((a0 + (1 : Int))) % 4294967296) (h12 : z10 = z9 / 16777216) (h13 : z11 = z9 / 65536) (h14 : z12 = (z11) % 256) (h15 : z13 = z9 / 256) (h16 : z14 = (z13) % 256) (h17 : z15 = (z9) % 256) (h18 : z16 = ((a0 + (3 : Int))) % 4294967296) (h19 : z17 = z16 / 16777216) (h20 : z18 = z16 / 65536) (h21 : z19 = (z18) % 256) (h22 : z20 = z16 / 256) (h23 : z21 = (z20) % 256) (h24 : z22 = (z16) % 256) (h25 : z23 = ((a0 + (7 : Int))) % 4294967296) (h26 : z24 = z23 / 16777216) (h27 : z25 = z23 / 65536) (h28 : z26 = (z25) % 256) (h29 : z27 = z23 / 256) (h30 : z28 = (z27) % 256) (h31 : z29 = (z23) % 256) (h32 : z30 = ((a0 + (15 : Int))) % 4294967296) (h33 : z31 = z30 / 16777216) (h34 : z32 = z30 / 65536) (h35 : z33 = (z32) % 256) (h36 : z34 = z30 / 256) (h37 : z35 = (z34) % 256) (h38 : z36 = (z30) % 256) (h39 : z37 = ((a0 + (31 : Int))) % 4294967296) (h40 : z38 = z37 / 16777216) (h41 : z39 = z37 / 65536) (h42 : z40 = (z39) % 256) : (z39) % 256 = z40 := by omega

theorem o45 (a0 z2 z3 z4 z5 z6 z7 z8 z9 z10 z11 z12 z13 z14 z15 z16 z17 z18 z19 z20 z21 z22 z23 z24 z25 z26 z27 z28 z29 z30 z31 z32 z33 z34 z35 z36 z37 z38 z39 z40 z41 : Int) (h0 : (-9223372036854775808 : Int) ≤ a0) (h1 : a0 ≤ (9223372036854775807 : Int)) (h2 : ¬ (549755813888 : Int) < a0) (h3 : (0 : Int) < a0) (h4 : z2 = (a0) % 4294967296) (h5 : z3 = z2 / 16777216) (h6 : z4 = z2 / 65536) (h7 : z5 = (z4) % 256) (h8 : z6 = z2 / 256) (h9 : z7 = (z6) % 256) (h10 : z8 = (z2) % 256) (h11 : z9 = ((a0 + (1 : Int))) % 4294967296) (h12 : z10 = z9 / 16777216) (h13 : z11 = z9 / 65536) (h14 : z12 = (z11) % 256) (h15 : z13 = z9 / 256) (h16 : z14 = (z13) % 256) (h17 : z15 = (z9) % 256) (h18 : z16 = ((a0 + (3 : Int))) % 4294967296) (h19 : z17 = z16 / 16777216) (h20 : z18 = z16 / 65536) (h21 : z19 = (z18) % 256) (h22 : z20 = z16 / 256) (h23 : z21 = (z20) % 256) (h24 : z22 = (z16) % 256) (h25 : z23 = ((a0 + (7 : Int))) % 4294967296) (h26 : z24 = z23 / 16777216) (h27 : z25 = z23 / 65536) (h28 : z26 = (z25) % 256) (h29 : z27 = z23 / 256) (h30 : z28 = (z27) % 256) (h31 : z29 = (z23) % 256) (h32 : z30 = ((a0 + (15 : Int))) % 4294967296) (h33 : z31 = z30 / 16777216) (h34 : z32 = z30 / 65536) (h35 : z33 = (z32) % 256) (h36 : z34 = z30 / 256) (h37 : z35 = (z34) % 256) (h38 : z36 = (z30) % 256) (h39 : z37 = ((a0 + (31 : Int))) % 4294967296) (h40 : z38 = z37 / 16777216) (h41 : z39 = z37 / 65536) (h42 : z40 = (z39) % 256) (h43 : z41 = z37 / 256) : z37 / 256 = z41 := by omega

theorem o46 (a0 z2 z3 z4 z5 z6 z7 z8 z9 z10 z11 z12 z13 z14 z15 z16 z17 z18 z19 z20 z21 z22 z23 z24 z25 z26 z27 z28 z29 z30 z31 z32 z33 z34 z35 z36 z37 z38 z39 z40 z41 z42 : Int) (h0 : (-9223372036854775808 : Int) ≤ a0) (h1 : a0 ≤ (9223372036854775807 : Int)) (h2 : ¬ (549755813888 : Int) < a0) (h3 : (0 : Int) < a0) (h4 : z2 = (a0) % 4294967296) (h5 : z3 = z2 / 16777216) (h6 : z4 = z2 / 65536) (h7 : z5 = (z4) % 256) (h8 : z6 = z2 / 256) (h9 : z7 = (z6) % 256) (h10 : z8 = (z2) % 256) (h11 : z9 = ((a0 + (1 : Int))) % 4294967296) (h12 : z10 = z9 / 16777216) (h13 : z11 = z9 / 65536) (h14 : z12 = (z11) % 256) (h15 : z13 = z9 / 256) (h16 : z14 = (z13) % 256) (h17 : z15 = (z9) % 256) (h18 : z16 = ((a0 + (3 : Int))) % 4294967296) (h19 : z17 = z16 / 16777216) (h20 : z18 = z16 / 65536) (h21 : z19 = (z18) % 256) (h22 : z20 = z16 / 256) (h23 : z21 = (z20) % 256) (h24 : z22 = (z16) % 256) (h25 : z23 = ((a0 + (7 : Int))) % 4294967296) (h26 : z24 = z23 / 16777216) (h27 : z25 = z23 / 65536) (h28 : z26 = (z25) % 256) (h29 : z27 = z23 / 256) (h30 : z28 = (z27) % 256) (h31 : z29 = (z23) % 256) (h32 : z30 = ((a0 + (15 : Int))) % 4294967296) (h33 : z31 = z30 / 16777216) (h34 : z32 = z30 / 65536) (h35 : z33 = (z32) % 256) (h36 : z34 = z30 / 256) (h37 : z35 = (z34) % 256) (h38 : z36 = (z30) % 256) (h39 : z37 = ((a0 + (31 : Int))) % 4294967296) (h40 : z38 = z37 / 16777216) (h41 : z39 = z37 / 65536) (h42 : z40 = (z39) % 256) (h43 : z41 = z37 / 256) (h44 : z42 = (z41) % 256) : (z41) % 256 = z42 := by omega

theorem o47 (a0 z37 z43 : Int) (h0 : (-9223372036854775808 : Int) ≤ a0) (h1 : a0 ≤ (9223372036854775807 : Int)) (h2 : ¬ (549755813888 : Int) < a0) (h3 : (0 : Int) < a0) (h4 : z37 = ((a0 + (31 : Int))) % 4294967296) (h5 : z43 = (z37) % 256) : (z37) % 256 = z43 := by omega

theorem o48 (a0 z44 : Int) (h0 : (-9223372036854775808 : Int) ≤ a0) (h1 : a0 ≤ (9223372036854775807 : Int)) (h2 : ¬ (549755813888 : Int) < a0) (h3 : (0 : Int) < a0) (h4 : z44 = ((a0 + (63 : Int))) % 4294967296) : ((a0 + (63 : Int))) % 4294967296 = z44 := by omega

theorem o49 (a0 z44 z45 : Int) (h0 : (-9223372036854775808 : Int) ≤ a0) (h1 : a0 ≤ (9223372036854775807 : Int)) (h2 : ¬ (549755813888 : Int) < a0) (h3 : (0 : Int) < a0) (h4 : z44 = ((a0 + (63 : Int))) % 4294967296) (h5 : z45 = z44 / 16777216) : z44 / 16777216 = z45 := by omega

theorem o50 (a0 z44 z45 : Int) (h0 : (-9223372036854775808 : Int) ≤ a0) (h1 : a0 ≤ (9223372036854775807 : Int)) (h2 : ¬ (549755813888 : Int) < a0) (h3 : (0 : Int) < a0) (h4 : z44 = ((a0 + (63 : Int))) % 4294967296) (h5 : z45 = z44 / 16777216) : (z45) % 256 = z45 := by omega

theorem o51 (a0 z44 z46 : Int) (h0 : (-9223372036854775808 : Int) ≤ a0) (h1 : a0 ≤ (9223372036854775807 : Int)) (h2 : ¬ (549755813888 : Int) < a0) (h3 : (0 : Int) < a0) (h4 : z44 = ((a0 + (63 : Int))) % 4294967296) (h5 : z46 = z44 / 65536) : z44 / 65536 = z46 := by omega

theorem o52 (a0 z44 z46 z47 : Int) (h0 : (-9223372036854775808 : Int) ≤ a0) (h1 : a0 ≤ (9223372036854775807 : Int)) (h2 : ¬ (549755813888 : Int) < a0) (h3 : (0 : Int) < a0) (h4 : z44 = ((a0 + (63 : Int))) % 4294967296) (h5 : z46 = z44 / 65536) (h6 : z47 = (z46) % 256) : (z46) % 256 = z47 := by omega

theorem o53 (a0 z44 z48 : Int) (h0 : (-9223372036854775808 : Int) ≤ a0) (h1 : a0 ≤ (9223372036854775807 : Int)) (h2 : ¬ (549755813888 : Int) < a0) (h3 : (0 : Int) < a0) (h4 : z44 = ((a0 + (63 : Int))) % 4294967296) (h5 : z48 = z44 / 256) : z44 / 256 = z48 := by omega

theorem o54 (a0 z44 z48 z49 : Int) (h0 : (-9223372036854775808 : Int) ≤ a0) (h1 : a0 ≤ (9223372036854775807 : Int)) (h2 : ¬ (549755813888 : Int) < a0) (h3 : (0 : Int) < a0) (h4 : z44 = ((a0 + (63 : Int))) % 4294967296) (h5 : z48 = z44 / 256) (h6 : z49 = (z48) % 256) : (z48) % 256 = z49 := by omega

theorem o55 (a0 z44 z50 : Int) (h0 : (-9223372036854775808 : Int) ≤ a0) (h1 : a0 ≤ (9223372036854775807 : Int)) (h2 : ¬ (549755813888 : Int) < a0) (h3 : (0 : Int) < a0) (h4 : z44 = ((a0 + (63 : Int))) % 4294967296) (h5 : z50 = (z44) % 256) : (z44) % 256 = z50 := by omega

theorem o56 (a0 z51 : Int) (h0 : (-9223372036854775808 : Int) ≤ a0) (h1 : a0 ≤ (9223372036854775807 : Int)) (h2 : ¬ (549755813888 : Int) < a0) (h3 : (0 : Int) < a0) (h4 : z51 = ((a0 + (127 : Int))) % 4294967296) : ((a0 + (127 : Int))) % 4294967296 = z51 := by omega

theorem o57 (a0 z51 z52 : Int) (h0 : (-9223372036854775808 : Int) ≤ a0) (h1 : a0 ≤ (9223372036854775807 : Int)) (h2 : ¬ (549755813888 : Int) < a0) (h3 : (0 : Int) < a0) (h4 : z51 = ((a0 + (127 : Int))) % 4294967296) (h5 : z52 = z51 / 16777216) : z51 / 16777216 = z52 := by omega

theorem o58 (a0 z51 z52 : Int) (h0 : (-9223372036854775808 : Int) ≤ a0) (h1 : a0 ≤ (9223372036854775807 : Int)) (h2 : ¬ (549755813888 : Int) < a0) (h3 : (0 : Int) < a0) (h4 : z51 = ((a0 + (127 : Int))) % 4294967296) (h5 : z52 = z51 / 16777216) : (z52) % 256 = z52 := by omega

theorem o59 (a0 z51 z53 : Int) (h0 : (-9223372036854775808 : Int) ≤ a0) (h1 : a0 ≤ (9223372036854775807 : Int)) (h2 : ¬ (549755813888 : Int) < a0) (h3 : (0 : Int) < a0) (h4 : z51 = ((a0 + (127 : Int))) % 4294967296) (h5 : z53 = z51 / 65536) : z51 / 65536 = z53 := by omega

theorem o60 (a0 z51 z53 z54 : Int) (h0 : (-9223372036854775808 : Int) ≤ a0) (h1 : a0 ≤ (9223372036854775807 : Int)) (h2 : ¬ (549755813888 : Int) < a0) (h3 : (0 : Int) < a0) (h4 : z51 = ((a0 + (127 : Int))) % 4294967296) (h5 : z53 = z51 / 65536) (h6 : z54 = (z53) % 256) : (z53) % 256 = z54 := by omega

theorem o61 (a0 z51 z55 : Int) (h0 : (-9223372036854775808 : Int) ≤ a0) (h1 : a0 ≤ (9223372036854775807 : Int)) (h2 : ¬ (549755813888 : Int) < a0) (h3 : (0 : Int) < a0) (h4 : z51 = ((a0 + (127 : Int))) % 4294967296) (h5 : z55 = z51 / 256) : z51 / 256 = z55 := by omega

theorem o62 (a0 z51 z55 z56 : Int) (h0 : (-9223372036854775808 : Int) ≤ a0) (h1 : a0 ≤ (9223372036854775807 : Int)) (h2 : ¬ (549755813888 : Int) < a0) (h3 : (0 : Int) < a0) (h4 : z51 = ((a0 + (127 : Int))) % 4294967296) (h5 : z55 = z51 / 256) (h6 : z56 = (z55) % 256) : (z55) % 256 = z56 := by omega

theorem o63 (a0 z51 z57 : Int) (h0 : (-9223372036854775808 : Int) ≤ a0) (h1 : a0 ≤ (9223372036854775807 : Int)) (h2 : ¬ (549755813888 : Int) < a0) (h3 : (0 : Int) < a0) (h4 : z51 = ((a0 + (127 : Int))) % 4294967296) (h5 : z57 = (z51) % 256) : (z51) % 256 = z57 := by omega

theorem o64 (a0 z58 : Int) (h0 : (-9223372036854775808 : Int) ≤ a0) (h1 : a0 ≤ (9223372036854775807 : Int)) (h2 : ¬ (549755813888 : Int) < a0) (h3 : (0 : Int) < a0) (h4 : z58 = ((a0 + (255 : Int))) % 4294967296) : ((a0 + (255 : Int))) % 4294967296 = z58 := by omega

theorem o65 (a0 z58 z59 : Int) (h0 : (-9223372036854775808 : Int) ≤ a0) (h1 : a0 ≤ (9223372036854775807 : Int)) (h2 : ¬ (549755813888 : Int) < a0) (h3 : (0 : Int) < a0) (h4 : z58 = ((a0 + (255 : Int))) % 4294967296) (h5 : z59 = z58 / 16777216) : z58 / 16777216 = z59 := by omega

theorem o66 (a0 z58 z59 : Int) (h0 : (-9223372036854775808 : Int) ≤ a0) (h1 : a0 ≤ (9223372036854775807 : Int)) (h2 : ¬ (549755813888 : Int) < a0) (h3 : (0 : Int) < a0) (h4 : z58 = ((a0 + (255 : Int))) % 4294967296) (h5 : z59 = z58 / 16777216) : (z59) % 256 = z59 := by omega

theorem o67 (a0 z58 z60 : Int) (h0 : (-9223372036854775808 : Int) ≤ a0) (h1 : a0 ≤ (9223372036854775807 : Int)) (h2 : ¬ (549755813888 : Int) < a0) (h3 : (0 : Int) < a0) (h4 : z58 = ((a0 + (255 : Int))) % 4294967296) (h5 : z60 = z58 / 65536) : z58 / 65536 = z60 := by omega

theorem o68 (a0 z58 z60 z61 : Int) (h0 : (-9223372036854775808 : Int) ≤ a0) (h1 : a0 ≤ (9223372036854775807 : Int)) (h2 : ¬ (549755813888 : Int) < a0) (h3 : (0 : Int) < a0) (h4 : z58 = ((a0 + (255 : Int))) % 4294967296) (h5 : z60 = z58 / 65536) (h6 : z61 = (z60) % 256) : (z60) % 256 = z61 := by omega

theorem o69 (a0 z58 z62 : Int) (h0 : (-9223372036854775808 : Int) ≤ a0) (h1 : a0 ≤ (9223372036854775807 : Int)) (h2 : ¬ (549755813888 : Int) < a0) (h3 : (0 : Int) < a0) (h4 : z58 = ((a0 + (255 : Int))) % 4294967296) (h5 : z62 = z58 / 256) : z58 / 256 = z62 := by omega

theorem o70 (a0 z58 z62 z63 : Int) (h0 : (-9223372036854775808 : Int) ≤ a0) (h1 : a0 ≤ (9223372036854775807 : Int)) (h2 : ¬ (549755813888 : Int) < a0) (h3 : (0 : Int) < a0) (h4 : z58 = ((a0 + (255 : Int))) % 4294967296) (h5 : z62 = z58 / 256) (h6 : z63 = (z62) % 256) : (z62) % 256 = z63 := by omega

theorem o71 (a0 z58 z64 : Int) (h0 : (-9223372036854775808 : Int) ≤ a0) (h1 : a0 ≤ (9223372036854775807 : Int)) (h2 : ¬ (549755813888 : Int) < a0) (h3 : (0 : Int) < a0) (h4 : z58 = ((a0 + (255 : Int))) % 4294967296) (h5 : z64 = (z58) % 256) : (z58) % 256 = z64 := by omega

theorem o72 (a0 z65 : Int) (h0 : (-9223372036854775808 : Int) ≤ a0) (h1 : a0 ≤ (9223372036854775807 : Int)) (h2 : ¬ (549755813888 : Int) < a0) (h3 : (0 : Int) < a0) (h4 : z65 = ((a0 + (511 : Int))) % 4294967296) : ((a0 + (511 : Int))) % 4294967296 = z65 := by omega

theorem o73 (a0 z65 z66 : Int) (h0 : (-9223372036854775808 : Int) ≤ a0) (h1 : a0 ≤ (9223372036854775807 : Int)) (h2 : ¬ (549755813888 : Int) < a0) (h3 : (0 : Int) < a0) (h4 : z65 = ((a0 + (511 : Int))) % 4294967296) (h5 : z66 = z65 / 16777216) : z65 / 16777216 = z66 := by omega

theorem o74 (a0 z65 z66 : Int) (h0 : (-9223372036854775808 : Int) ≤ a0) (h1 : a0 ≤ (9223372036854775807 : Int)) (h2 : ¬ (549755813888 : Int) < a0) (h3 : (0 : Int) < a0) (h4 : z65 = ((a0 + (511 : Int))) % 4294967296) (h5 : z66 = z65 / 16777216) : (z66) % 256 = z66 := by omega

theorem o75 (a0 z65 z67 : Int) (h0 : (-9223372036854775808 : Int) ≤ a0) (h1 : a0 ≤ (9223372036854775807 : Int)) (h2 : ¬ (549755813888 : Int) < a0) (h3 : (0 : Int) < a0) (h4 : z65 = ((a0 + (511 : Int))) % 4294967296) (h5 : z67 = z65 / 65536) : z65 / 65536 = z67 := by omega

theorem o76 (a0 z65 z67 z68 : Int) (h0 : (-9223372036854775808 : Int) ≤ a0) (h1 : a0 ≤ (9223372036854775807 : Int)) (h2 : ¬ (549755813888 : Int) < a0) (h3 : (0 : Int) < a0) (h4 : z65 = ((a0 + (511 : Int))) % 4294967296) (h5 : z67 = z65 / 65536) (h6 : z68 = (z67) % 256) : (z67) % 256 = z68 := by omega

theorem o77 (a0 z65 z69 : Int) (h0 : (-9223372036854775808 : Int) ≤ a0) (h1 : a0 ≤ (9223372036854775807 : Int)) (h2 : ¬ (549755813888 : Int) < a0) (h3 : (0 : Int) < a0) (h4 : z65 = ((a0 + (511 : Int))) % 4294967296) (h5 : z69 = z65 / 256) : z65 / 256 = z69 := by omega

theorem o78 (a0 z65 z69 z70 : Int) (h0 : (-9223372036854775808 : Int) ≤ a0) (h1 : a0 ≤ (9223372036854775807 : Int)) (h2 : ¬ (549755813888 : Int) < a0) (h3 : (0 : Int) < a0) (h4 : z65 = ((a0 + (511 : Int))) % 4294967296) (h5 : z69 = z65 / 256) (h6 : z70 = (z69) % 256) : (z69) % 256 = z70 := by omega

theorem o79 (a0 z58 z64 z65 : Int) (h0 : (-9223372036854775808 : Int) ≤ a0) (h1 : a0 ≤ (9223372036854775807 : Int)) (h2 : ¬ (549755813888 : Int) < a0) (h3 : (0 : Int) < a0) (h4 : z58 = ((a0 + (255 : Int))) % 4294967296) (h5 : z64 = (z58) % 256) (h6 : z65 = ((a0 + (511 : Int))) % 4294967296) : (z65) % 256 = z64 := by omega

theorem o80 (a0 z2 : Int) (h0 : (-9223372036854775808 : Int) ≤ a0) (h1 : a0 ≤ (9223372036854775807 : Int)) (h2 : ¬ a0 < (0 : Int)) (h3 : ¬ (0 : Int) < a0) (h4 : z2 = a0 + (599 : Int)) : (a0 + (599 : Int) + 9223372036854775808) % 18446744073709551616 - 9223372036854775808 = z2 := by omega

theorem o81 (a0 z2 z3 : Int) (h0 : (-9223372036854775808 : Int) ≤ a0) (h1 : a0 ≤ (9223372036854775807 : Int)) (h2 : ¬ a0 < (0 : Int)) (h3 : ¬ (0 : Int) < a0) (h4 : z2 = a0 + (599 : Int)) (h5 : z3 = a0 + (600 : Int)) : (a0 + (600 : Int) + 9223372036854775808) % 18446744073709551616 - 9223372036854775808 = z3 := by omega

theorem t42 (a0 a1 z2 z3 z4 z5 z6 z7 z8 z9 z10 z11 z12 z13 z14 z15 z16 z17 z18 z19 z20 z21 z22 z23 z24 z25 z26 z27 z28 z29 z30 z31 z32 z33 z34 z35 z36 z37 z38 z39 z40 z41 z42 z43 z44 z45 z46 z47 z48 z49 z50 z51 z52 z53 z54 z55 z56 z57 z58 z59 z60 z61 z62 z63 z64 z65 z66 z67 z68 z69 z70 : Int) (l0 : (-9223372036854775808 : Int) ≤ a0) (u0 : a0 ≤ (9223372036854775807 : Int)) (l1 : (-9223372036854775808 : Int) ≤ a1) (u1 : a1 ≤ (9223372036854775807 : Int)) (f1 : ¬ (549755813888 : Int) < a0) (f3 : ¬ (600 : Int) < a1) (f4 : (0 : Int) < a0) (e2 : z2 = (a0) % 4294967296) (e3 : z3 = z2 / 16777216) (e4 : z4 = z2 / 65536) (e5 : z5 = (z4) % 256) (e6 : z6 = z2 / 256) (e7 : z7 = (z6) % 256) (e8 : z8 = (z2) % 256) (e9 : z9 = ((a0 + (1 : Int))) % 4294967296) (e10 : z10 = z9 / 16777216) (e11 : z11 = z9 / 65536) (e12 : z12 = (z11) % 256) (e13 : z13 = z9 / 256) (e14 : z14 = (z13) % 256) (e15 : z15 = (z9) % 256) (e16 : z16 = ((a0 + (3 : Int))) % 4294967296) (e17 : z17 = z16 / 16777216) (e18 : z18 = z16 / 65536) (e19 : z19 = (z18) % 256) (e20 : z20 = z16 / 256) (e21 : z21 = (z20) % 256) (e22 : z22 = (z16) % 256) (e23 : z23 = ((a0 + (7 : Int))) % 4294967296) (e24 : z24 = z23 / 16777216) (e25 : z25 = z23 / 65536) (e26 : z26 = (z25) % 256) (e27 : z27 = z23 / 256) (e28 : z28 = (z27) % 256) (e29 : z29 = (z23) % 256) (e30 : z30 = ((a0 + (15 : Int))) % 4294967296) (e31 : z31 = z30 / 16777216) (e32 : z32 = z30 / 65536) (e33 : z33 = (z32) % 256) (e34 : z34 = z30 / 256) (e35 : z35 = (z34) % 256) (e36 : z36 = (z30) % 256) (e37 : z37 = ((a0 + (31 : Int))) % 4294967296) (e38 : z38 = z37 / 16777216) (e39 : z39 = z37 / 65536) (e40 : z40 = (z39) % 256) (e41 : z41 = z37 / 256) (e42 : z42 = (z41) % 256) (e43 : z43 = (z37) % 256) (e44 : z44 = ((a0 + (63 : Int))) % 4294967296) (e45 : z45 = z44 / 16777216) (e46 : z46 = z44 / 65536) (e47 : z47 = (z46) % 256) (e48 : z48 = z44 / 256) (e49 : z49 = (z48) % 256) (e50 : z50 = (z44) % 256) (e51 : z51 = ((a0 + (127 : Int))) % 4294967296) (e52 : z52 = z51 / 16777216) (e53 : z53 = z51 / 65536) (e54 : z54 = (z53) % 256) (e55 : z55 = z51 / 256) (e56 : z56 = (z55) % 256) (e57 : z57 = (z51) % 256) (e58 : z58 = ((a0 + (255 : Int))) % 4294967296) (e59 : z59 = z58 / 16777216) (e60 : z60 = z58 / 65536) (e61 : z61 = (z60) % 256) (e62 : z62 = z58 / 256) (e63 : z63 = (z62) % 256) (e64 : z64 = (z58) % 256) (e65 : z65 = ((a0 + (511 : Int))) % 4294967296) (e66 : z66 = z65 / 16777216) (e67 : z67 = z65 / 65536) (e68 : z68 = (z67) % 256) (e69 : z69 = z65 / 256) (e70 : z70 = (z69) % 256) (f587 : (583 : Int) ≤ a1) : R12.holds [a0, a1, z2, z3, z4, z5, z6, z7, z8, z9, z10, z11, z12, z13, z14, z15, z16, z17, z18, z19, z20, z21, z22, z23, z24, z25, z26, z27, z28, z29, z30, z31, z32, z33, z34, z35, z36, z37, z38, z39, z40, z41, z42, z43, z44, z45, z46, z47, z48, z49, z50, z51, z52, z53, z54, z55, z56, z57, z58, z59, z60, z61, z62, z63, z64, z65, z66, z67, z68, z69, z70] := by
 refine Pt.h_fork (fun (f588 : (584 : Int) ≤ a1) => ?_) (fun (f588 : ¬ (584 : Int) ≤ a1) => Pt.h_done)
 refine Pt.h_fork (fun (f589 : (585 : Int) ≤ a1) => ?_) (fun (f589 : ¬ (585 : Int) ≤ a1) => Pt.h_done)
 refine Pt.h_fork (fun (f590 : (586 : Int) ≤ a1) => ?_) (fun (f590 : ¬ (586 : Int) ≤ a1) => Pt.h_done)
 refine Pt.h_fork (fun (f591 : (587 : Int) ≤ a1) => ?_) (fun (f591 : ¬ (587 : Int) ≤ a1) => Pt.h_done)
 refine Pt.h_fork (fun (f592 : (588 : Int) ≤ a1) => ?_) (fun (f592 : ¬ (588 : Int) ≤ a1) => Pt.h_done)
 refine Pt.h_fork (fun (f593 : (589 : Int) ≤ a1) => ?_) (fun (f593 : ¬ (589 : Int) ≤ a1) => Pt.h_done)
 refine Pt.h_fork (fun (f594 : (590 : Int) ≤ a1) => ?_) (fun (f594 : ¬ (590 : Int) ≤ a1) => Pt.h_done)
 refine Pt.h_fork (fun (f595 : (591 : Int) ≤ a1) => ?_) (fun (f595 : ¬ (591 : Int) ≤ a1) => Pt.h_done)
 refine Pt.h_fork (fun (f596 : (592 : Int) ≤ a1) => ?_) (fun (f596 : ¬ (592 : Int) ≤ a1) => Pt.h_done)
 refine Pt.h_fork (fun (f597 : (593 : Int) ≤ a1) => ?_) (fun (f597 : ¬ (593 : Int) ≤ a1) => Pt.h_done)
 refine Pt.h_fork (fun (f598 : (594 : Int) ≤ a1) => ?_) (fun (f598 : ¬ (594 : Int) ≤ a1) => Pt.h_done)
 refine Pt.h_fork (fun (f599 : (595 : Int) ≤ a1) => ?_) (fun (f599 : ¬ (595 : Int) ≤ a1) => Pt.h_done)
 refine Pt.h_fork (fun (f600 : (596 : Int) ≤ a1) => ?_) (fun (f600 : ¬ (596 : Int) ≤ a1) => Pt.h_done)
 refine Pt.h_fork (fun (f601 : (597 : Int) ≤ a1) => ?_) (fun (f601 : ¬ (597 : Int) ≤ a1) => Pt.h_done)
 refine Pt.h_fork (fun (f602 : (598 : Int) ≤ a1) => ?_) (fun (f602 : ¬ (598 : Int) ≤ a1) => Pt.h_done)
 refine Pt.h_fork (fun (f603 : (599 : Int) ≤ a1) => ?_) (fun (f603 : ¬ (599 : Int) ≤ a1) => Pt.h_done)
 exact Pt.h_fork (fun (f604 : (600 : Int) ≤ a1) => Pt.h_done) (fun (f604 : ¬ (600 : Int) ≤ a1) => Pt.h_done)

theorem t41 (a0 a1 z2 z3 z4 z5 z6 z7 z8 z9 z10 z11 z12 z13 z14 z15 z16 z17 z18 z19 z20 z21 z22 z23 z24 z25 z26 z27 z28 z29 z30 z31 z32 z33 z34 z35 z36 z37 z38 z39 z40 z41 z42 z43 z44 z45 z46 z47 z48 z49 z50 z51 z52 z53 z54 z55 z56 z57 z58 z59 z60 z61 z62 z63 z64 z65 z66 z67 z68 z69 z70 : Int) (l0 : (-9223372036854775808 : Int) ≤ a0) (u0 : a0 ≤ (9223372036854775807 : Int)) (l1 : (-9223372036854775808 : Int) ≤ a1) (u1 : a1 ≤ (9223372036854775807 : Int)) (f1 : ¬ (549755813888 : Int) < a0) (f3 : ¬ (600 : Int) < a1) (f4 : (0 : Int) < a0) (e2 : z2 = (a0) % 4294967296) (e3 : z3 = z2 / 16777216) (e4 : z4 = z2 / 65536) (e5 : z5 = (z4) % 256) (e6 : z6 = z2 / 256) (e7 : z7 = (z6) % 256) (e8 : z8 = (z2) % 256) (e9 : z9 = ((a0 + (1 : Int))) % 4294967296) (e10 : z10 = z9 / 16777216) (e11 : z11 = z9 / 65536) (e12 : z12 = (z11) % 256) (e13 : z13 = z9 / 256) (e14 : z14 = (z13) % 256) (e15 : z15 = (z9) % 256) (e16 : z16 = ((a0 + (3 : Int))) % 4294967296) (e17 : z17 = z16 / 16777216) (e18 : z18 = z16 / 65536) (e19 : z19 = (z18) % 256) (e20 : z20 = z16 / 256) (e21 : z21 = (z20) % 256) (e22 : z22 = (z16) % 256) (e23 : z23 = ((a0 + (7 : Int))) % 4294967296) (e24 : z24 = z23 / 16777216) (e25 : z25 = z23 / 65536) (e26 : z26 = (z25) % 256) (e27 : z27 = z23 / 256) (e28 : z28 = (z27) % 256) (e29 : z29 = (z23) % 256) (e30 : z30 = ((a0 + (15 : Int))) % 4294967296) (e31 : z31 = z30 / 16777216) (e32 : z32 = z30 / 65536) (e33 : z33 = (z32) % 256) (e34 : z34 = z30 / 256) (e35 : z35 = (z34) % 256) (e36 : z36 = (z30) % 256) (e37 : z37 = ((a0 + (31 : Int))) % 4294967296) (e38 : z38 = z37 / 16777216) (e39 : z39 = z37 / 65536) (e40 : z40 = (z39) % 256) (e41 : z41 = z37 / 256) (e42 : z42 = (z41) % 256) (e43 : z43 = (z37) % 256) (e44 : z44 = ((a0 + (63 : Int))) % 4294967296) (e45 : z45 = z44 / 16777216) (e46 : z46 = z44 / 65536) (e47 : z47 = (z46) % 256) (e48 : z48 = z44 / 256) (e49 : z49 = (z48) % 256) (e50 : z50 = (z44) % 256) (e51 : z51 = ((a0 + (127 : Int))) % 4294967296) (e52 : z52 = z51 / 16777216) (e53 : z53 = z51 / 65536) (e54 : z54 = (z53) % 256) (e55 : z55 = z51 / 256) (e56 : z56 = (z55) % 256) (e57 : z57 = (z51) % 256) (e58 : z58 = ((a0 + (255 : Int))) % 4294967296) (e59 : z59 = z58 / 16777216) (e60 : z60 = z58 / 65536) (e61 : z61 = (z60) % 256) (e62 : z62 = z58 / 256) (e63 : z63 = (z62) % 256) (e64 : z64 = (z58) % 256) (e65 : z65 = ((a0 + (511 : Int))) % 4294967296) (e66 : z66 = z65 / 16777216) (e67 : z67 = z65 / 65536) (e68 : z68 = (z67) % 256) (e69 : z69 = z65 / 256) (e70 : z70 = (z69) % 256) (f573 : (569 : Int) ≤ a1) : R26.holds [a0, a1, z2, z3, z4, z5, z6, z7, z8, z9, z10, z11, z12, z13, z14, z15, z16, z17, z18, z19, z20, z21, z22, z23, z24, z25, z26, z27, z28, z29, z30, z31, z32, z33, z34, z35, z36, z37, z38, z39, z40, z41, z42, z43, z44, z45, z46, z47, z48, z49, z50, z51, z52, z53, z54, z55, z56, z57, z58, z59, z60, z61, z62, z63, z64, z65, z66, z67, z68, z69, z70] := by
 refine Pt.h_fork (fun (f574 : (570 : Int) ≤ a1) => ?_) (fun (f574 : ¬ (570 : Int) ≤ a1) => Pt.h_done)
 refine Pt.h_fork (fun (f575 : (571 : Int) ≤ a1) => ?_) (fun (f575 : ¬ (571 : Int) ≤ a1) => Pt.h_done)
 refine Pt.h_fork (fun (f576 : (572 : Int) ≤ a1) => ?_) (fun (f576 : ¬ (572 : Int) ≤ a1) => Pt.h_done)
 refine Pt.h_fork (fun (f577 : (573 : Int) ≤ a1) => ?_) (fun (f577 : ¬ (573 : Int) ≤ a1) => Pt.h_done)
 refine Pt.h_fork (fun (f578 : (574 : Int) ≤ a1) => ?_) (fun (f578 : ¬ (574 : Int) ≤ a1) => Pt.h_done)
 refine Pt.h_fork (fun (f579 : (575 : Int) ≤ a1) => ?_) (fun (f579 : ¬ (575 : Int) ≤ a1) => Pt.h_done)
 refine Pt.h_fork (fun (f580 : (576 : Int) ≤ a1) => ?_) (fun (f580 : ¬ (576 : Int) ≤ a1) => Pt.h_done)
 refine Pt.h_fork (fun (f581 : (577 : Int) ≤ a1) => ?_) (fun (f581 : ¬ (577 : Int) ≤ a1) => Pt.h_done)
 refine Pt.h_fork (fun (f582 : (578 : Int) ≤ a1) => ?_) (fun (f582 : ¬ (578 : Int) ≤ a1) => Pt.h_done)
 refine Pt.h_fork (fun (f583 : (579 : Int) ≤ a1) => ?_) (fun (f583 : ¬ (579 : Int) ≤ a1) => Pt.h_done)
 refine Pt.h_fork (fun (f584 : (580 : Int) ≤ a1) => ?_) (fun (f584 : ¬ (580 : Int) ≤ a1) => Pt.h_done)
 refine Pt.h_fork (fun (f585 : (581 : Int) ≤ a1) => ?_) (fun (f585 : ¬ (581 : Int) ≤ a1) => Pt.h_done)
 refine Pt.h_fork (fun (f586 : (582 : Int) ≤ a1) => ?_) (fun (f586 : ¬ (582 : Int) ≤ a1) => Pt.h_done)
 refine Pt.h_fork (fun (f587 : (583 : Int) ≤ a1) => ?_) (fun (f587 : ¬ (583 : Int) ≤ a1) => Pt.h_done)
 exact t42 a0 a1 z2 z3 z4 z5 z6 z7 z8 z9 z10 z11 z12 z13 z14 z15 z16 z17 z18 z19 z20 z21 z22 z23 z24 z25 z26 z27 z28 z29 z30 z31 z32 z33 z34 z35 z36 z37 z38 z39 z40 z41 z42 z43 z44 z45 z46 z47 z48 z49 z50 z51 z52 z53 z54 z55 z56 z57 z58 z59 z60 z61 z62 z63 z64 z65 z66 z67 z68 z69 z70 l0 u0 l1 u1 f1 f3 f4 e2 e3 e4 e5 e6 e7 e8 e9 e10 e11 e12 e13 e14 e15 e16 e17 e18 e19 e20 e21 e22 e23 e24 e25 e26 e27 e28 e29 e30 e31 e32 e33 e34 e35 e36 e37 e38 e39 e40 e41 e42 e43 e44 e45 e46 e47 e48 e49 e50 e51 e52 e53 e54 e55 e56 e57 e58 e59 e60 e61 e62 e63 e64 e65 e66 e67 e68 e69 e70 f587

theorem t40 (a0 a1 z2 z3 z4 z5 z6 z7 z8 z9 z10 z11 z12 z13 z14 z15 z16 z17 z18 z19 z20 z21 z22 z23 z24 z25 z26 z27 z28 z29 z30 z31 z32 z33 z34 z35 z36 z37 z38 z39 z40 z41 z42 z43 z44 z45 z46 z47 z48 z49 z50 z51 z52 z53 z54 z55 z56 z57 z58 z59 z60 z61 z62 z63 z64 z65 z66 z67 z68 z69 z70 : Int) (l0 : (-9223372036854775808 : Int) ≤ a0) (u0 : a0 ≤ (9223372036854775807 : Int)) (l1 : (-9223372036854775808 : Int) ≤ a1) (u1 : a1 ≤ (9223372036854775807 : Int)) (f1 : ¬ (549755813888 : Int) < a0) (f3 : ¬ (600 : Int) < a1) (f4 : (0 : Int) < a0) (e2 : z2 = (a0) % 4294967296) (e3 : z3 = z2 / 16777216) (e4 : z4 = z2 / 65536) (e5 : z5 = (z4) % 256) (e6 : z6 = z2 / 256) (e7 : z7 = (z6) % 256) (e8 : z8 = (z2) % 256) (e9 : z9 = ((a0 + (1 : Int))) % 4294967296) (e10 : z10 = z9 / 16777216) (e11 : z11 = z9 / 65536) (e12 : z12 = (z11) % 256) (e13 : z13 = z9 / 256) (e14 : z14 = (z13) % 256) (e15 : z15 = (z9) % 256) (e16 : z16 = ((a0 + (3 : Int))) % 4294967296) (e17 : z17 = z16 / 16777216) (e18 : z18 = z16 / 65536) (e19 : z19 = (z18) % 256) (e20 : z20 = z16 / 256) (e21 : z21 = (z20) % 256) (e22 : z22 = (z16) % 256) (e23 : z23 = ((a0 + (7 : Int))) % 4294967296) (e24 : z24 = z23 / 16777216) (e25 : z25 = z23 / 65536) (e26 : z26 = (z25) % 256) (e27 : z27 = z23 / 256) (e28 : z28 = (z27) % 256) (e29 : z29 = (z23) % 256) (e30 : z30 = ((a0 + (15 : Int))) % 4294967296) (e31 : z31 = z30 / 16777216) (e32 : z32 = z30 / 65536) (e33 : z33 = (z32) % 256) (e34 : z34 = z30 / 256) (e35 : z35 = (z34) % 256) (e36 : z36 = (z30) % 256) (e37 : z37 = ((a0 + (31 : Int))) % 4294967296) (e38 : z38 = z37 / 16777216) (e39 : z39 = z37 / 65536) (e40 : z40 = (z39) % 256) (e41 : z41 = z37 / 256) (e42 : z42 = (z41) % 256) (e43 : z43 = (z37) % 256) (e44 : z44 = ((a0 + (63 : Int))) % 4294967296) (e45 : z45 = z44 / 16777216) (e46 : z46 = z44 / 65536) (e47 : z47 = (z46) % 256) (e48 : z48 = z44 / 256) (e49 : z49 = (z48) % 256) (e50 : z50 = (z44) % 256) (e51 : z51 = ((a0 + (127 : Int))) % 4294967296) (e52 : z52 = z51 / 16777216) (e53 : z53 = z51 / 65536) (e54 : z54 = (z53) % 256) (e55 : z55 = z51 / 256) (e56 : z56 = (z55) % 256) (e57 : z57 = (z51) % 256) (e58 : z58 = ((a0 + (255 : Int))) % 4294967296) (e59 : z59 = z58 / 16777216) (e60 : z60 = z58 / 65536) (e61 : z61 = (z60) % 256) (e62 : z62 = z58 / 256) (e63 : z63 = (z62) % 256) (e64 : z64 = (z58) % 256) (e65 : z65 = ((a0 + (511 : Int))) % 4294967296) (e66 : z66 = z65 / 16777216) (e67 : z67 = z65 / 65536) (e68 : z68 = (z67) % 256) (e69 : z69 = z65 / 256) (e70 : z70 = (z69) % 256) (f559 : (555 : Int) ≤ a1) : R40.holds [a0, a1, z2, z3, z4, z5, z6, z7, z8, z9, z10, z11, z12, z13, z14, z15, z16, z17, z18, z19, z20, z21, z22, z23, z24, z25, z26, z27, z28, z29, z30, z31, z32, z33, z34, z35, z36, z37, z38, z39, z40, z41, z42, z43, z44, z45, z46, z47, z48, z49, z50, z51, z52, z53, z54, z55, z56, z57, z58, z59, z60, z61, z62, z63, z64, z65, z66, z67, z68, z69, z70] := by
 refine Pt.h_fork (fun (f560 : (556 : Int) ≤ a1) => ?_) (fun (f560 : ¬ (556 : Int) ≤ a1) => Pt.h_done)
 refine Pt.h_fork (fun (f561 : (557 : Int) ≤ a1) => ?_) (fun (f561 : ¬ (557 : Int) ≤ a1) => Pt.h_done)
 refine Pt.h_fork (fun (f562 : (558 : Int) ≤ a1) => ?_) (fun (f562 : ¬ (558 : Int) ≤ a1) => Pt.h_done)
 refine Pt.h_fork (fun (f563 : (559 : Int) ≤ a1) => ?_) (fun (f563 : ¬ (559 : Int) ≤ a1) => Pt.h_done)
 refine Pt.h_fork (fun (f564 : (560 : Int) ≤ a1) => ?_) (fun (f564 : ¬ (560 : Int) ≤ a1) => Pt.h_done)
 refine Pt.h_fork (fun (f565 : (561 : Int) ≤ a1) => ?_) (fun (f565 : ¬ (561 : Int) ≤ a1) => Pt.h_done)
 refine Pt.h_fork (fun (f566 : (562 : Int) ≤ a1) => ?_) (fun (f566 : ¬ (562 : Int) ≤ a1) => Pt.h_done)
 refine Pt.h_fork (fun (f567 : (563 : Int) ≤ a1) => ?_) (fun (f567 : ¬ (563 : Int) ≤ a1) => Pt.h_done)
 refine Pt.h_fork (fun (f568 : (564 : Int) ≤ a1) => ?_) (fun (f568 : ¬ (564 : Int) ≤ a1) => Pt.h_done)
 refine Pt.h_fork (fun (f569 : (565 : Int) ≤ a1) => ?_) (fun (f569 : ¬ (565 : Int) ≤ a1) => Pt.h_done)
 refine Pt.h_fork (fun (f570 : (566 : Int) ≤ a1) => ?_) (fun (f570 : ¬ (566 : Int) ≤ a1) => Pt.h_done)
 refine Pt.h_fork (fun (f571 : (567 : Int) ≤ a1) => ?_) (fun (f571 : ¬ (567 : Int) ≤ a1) => Pt.h_done)
 refine Pt.h_fork (fun (f572 : (568 : Int) ≤ a1) => ?_) (fun (f572 : ¬ (568 : Int) ≤ a1) => Pt.h_done)
 refine Pt.h_fork (fun (f573 : (569 : Int) ≤ a1) => ?_) (fun (f573 : ¬ (569 : Int) ≤ a1) => Pt.h_done)
 exact t41 a0 a1 z2 z3 z4 z5 z6 z7 z8 z9 z10 z11 z12 z13 z14 z15 z16 z17 z18 z19 z20 z21 z22 z23 z24 z25 z26 z27 z28 z29 z30 z31 z32 z33 z34 z35 z36 z37 z38 z39 z40 z41 z42 z43 z44 z45 z46 z47 z48 z49 z50 z51 z52 z53 z54 z55 z56 z57 z58 z59 z60 z61 z62 z63 z64 z65 z66 z67 z68 z69 z70 l0 u0 l1 u1 f1 f3 f4 e2 e3 e4 e5 e6 e7 e8 e9 e10 e11 e12 e13 e14 e15 e16 e17 e18 e19 e20 e21 e22 e23 e24 e25 e26 e27 e28 e29 e30 e31 e32 e33 e34 e35 e36 e37 e38 e39 e40 e41 e42 e43 e44 e45 e46 e47 e48 e49 e50 e51 e52 e53 e54 e55 e56 e57 e58 e59 e60 e61 e62 e63 e64 e65 e66 e67 e68 e69 e70 f573

theorem t39 (a0 a1 z2 z3 z4 z5 z6 z7 z8 z9 z10 z11 z12 z13 z14 z15 z16 z17 z18 z19 z20 z21 z22 z23 z24 z25 z26 z27 z28 z29 z30 z31 z32 z33 z34 z35 z36 z37 z38 z39 z40 z41 z42 z43 z44 z45 z46 z47 z48 z49 z50 z51 z52 z53 z54 z55 z56 z57 z58 z59 z60 z61 z62 z63 z64 z65 z66 z67 z68 z69 z70 : Int) (l0 : (-9223372036854775808 : Int) ≤ a0) (u0 : a0 ≤ (9223372036854775807 : Int)) (l1 : (-9223372036854775808 : Int) ≤ a1) (u1 : a1 ≤ (9223372036854775807 : Int)) (f1 : ¬ (549755813888 : Int) < a0) (f3 : ¬ (600 : Int) < a1) (f4 : (0 : Int) < a0) (e2 : z2 = (a0) % 4294967296) (e3 : z3 = z2 / 16777216) (e4 : z4 = z2 / 65536) (e5 : z5 = (z4) % 256) (e6 : z6 = z2 / 256) (e7 : z7 = (z6) % 256) (e8 : z8 = (z2) % 256) (e9 : z9 = ((a0 + (1 : Int))) % 4294967296) (e10 : z10 = z9 / 16777216) (e11 : z11 = z9 / 65536) (e12 : z12 = (z11) % 256) (e13 : z13 = z9 / 256) (e14 : z14 = (z13) % 256) (e15 : z15 = (z9) % 256) (e16 : z16 = ((a0 + (3 : Int))) % 4294967296) (e17 : z17 = z16 / 16777216) (e18 : z18 = z16 / 65536) (e19 : z19 = (z18) % 256) (e20 : z20 = z16 / 256) (e21 : z21 = (z20) % 256) (e22 : z22 = (z16) % 256) (e23 : z23 = ((a0 + (7 : Int))) % 4294967296) (e24 : z24 = z23 / 16777216) (e25 : z25 = z23 / 65536) (e26 : z26 = (z25) % 256) (e27 : z27 = z23 / 256) (e28 : z28 = (z27) % 256) (e29 : z29 = (z23) % 256) (e30 : z30 = ((a0 + (15 : Int))) % 4294967296) (e31 : z31 = z30 / 16777216) (e32 : z32 = z30 / 65536) (e33 : z33 = (z32) % 256) (e34 : z34 = z30 / 256) (e35 : z35 = (z34) % 256) (e36 : z36 = (z30) % 256) (e37 : z37 = ((a0 + (31 : Int))) % 4294967296) (e38 : z38 = z37 / 16777216) (e39 : z39 = z37 / 65536) (e40 : z40 = (z39) % 256) (e41 : z41 = z37 / 256) (e42 : z42 = (z41) % 256) (e43 : z43 = (z37) % 256) (e44 : z44 = ((a0 + (63 : Int))) % 4294967296) (e45 : z45 = z44 / 16777216) (e46 : z46 = z44 / 65536) (e47 : z47 = (z46) % 256) (e48 : z48 = z44 / 256) (e49 : z49 = (z48) % 256) (e50 : z50 = (z44) % 256) (e51 : z51 = ((a0 + (127 : Int))) % 4294967296) (e52 : z52 = z51 / 16777216) (e53 : z53 = z51 / 65536) (e54 : z54 = (z53) % 256) (e55 : z55 = z51 / 256) (e56 : z56 = (z55) % 256) (e57 : z57 = (z51) % 256) (e58 : z58 = ((a0 + (255 : Int))) % 4294967296) (e59 : z59 = z58 / 16777216) (e60 : z60 = z58 / 65536) (e61 : z61 = (z60) % 256) (e62 : z62 = z58 / 256) (e63 : z63 = (z62) % 256) (e64 : z64 = (z58) % 256) (e65 : z65 = ((a0 + (511 : Int))) % 4294967296) (e66 : z66 = z65 / 16777216) (e67 : z67 = z65 / 65536) (e68 : z68 = (z67) % 256) (e69 : z69 = z65 / 256) (e70 : z70 = (z69) % 256) (f545 : (541 : Int) ≤ a1) : R54.holds [a0, a1, z2, z3, z4, z5, z6, z7, z8, z9, z10, z11, z12, z13, z14, z15, z16, z17, z18, z19, z20, z21, z22, z23, z24, z25, z26, z27, z28, z29, z30, z31, z32, z33, z34, z35, z36, z37, z38, z39, z40, z41, z42, z43, z44, z45, z46, z47, z48, z49, z50, z51, z52, z53, z54, z55, z56, z57, z58, z59, z60, z61, z62, z63, z64, z65, z66, z67, z68, z69, z70] := by
 refine Pt.h_fork (fun (f546 : (542 : Int) ≤ a1) => ?_) (fun (f546 : ¬ (542 : Int) ≤ a1) => Pt.h_done)
 refine Pt.h_fork (fun (f547 : (543 : Int) ≤ a1) => ?_) (fun (f547 : ¬ (543 : Int) ≤ a1) => Pt.h_done)
 refine Pt.h_fork (fun (f548 : (544 : Int) ≤ a1) => ?_) (fun (f548 : ¬ (544 : Int) ≤ a1) => Pt.h_done)
 refine Pt.h_fork (fun (f549 : (545 : Int) ≤ a1) => ?_) (fun (f549 : ¬ (545 : Int) ≤ a1) => Pt.h_done)
 refine Pt.h_fork (fun (f550 : (546 : Int) ≤ a1) => ?_) (fun (f550 : ¬ (546 : Int) ≤ a1) => Pt.h_done)
 refine Pt.h_fork (fun (f551 : (547 : Int) ≤ a1) => ?_) (fun (f551 : ¬ (547 : Int) ≤ a1) => Pt.h_done)
 refine Pt.h_fork (fun (f552 : (548 : Int) ≤ a1) => ?_) (fun (f552 : ¬ (548 : Int) ≤ a1) => Pt.h_done)
 refine Pt.h_fork (fun (f553 : (549 : Int) ≤ a1) => ?_) (fun (f553 : ¬ (549 : Int) ≤ a1) => Pt.h_done)
 refine Pt.h_fork (fun (f554 : (550 : Int) ≤ a1) => ?_) (fun (f554 : ¬ (550 : Int) ≤ a1) => Pt.h_done)
 refine Pt.h_fork (fun (f555 : (551 : Int) ≤ a1) => ?_) (fun (f555 : ¬ (551 : Int) ≤ a1) => Pt.h_done)
 refine Pt.h_fork (fun (f556 : (552 : Int) ≤ a1) => ?_) (fun (f556 : ¬ (552 : Int) ≤ a1) => Pt.h_done)
 refine Pt.h_fork (fun (f557 : (553 : Int) ≤ a1) => ?_) (fun (f557 : ¬ (553 : Int) ≤ a1) => Pt.h_done)
 refine Pt.h_fork (fun (f558 : (554 : Int) ≤ a1) => ?_) (fun (f558 : ¬ (554 : Int) ≤ a1) => Pt.h_done)
 refine Pt.h_fork (fun (f559 : (555 : Int) ≤ a1) => ?_) (fun (f559 : ¬ (555 : Int) ≤ a1) => Pt.h_done)
 exact t40 a0 a1 z2 z3 z4 z5 z6 z7 z8 z9 z10 z11 z12 z13 z14 z15 z16 z17 z18 z19 z20 z21 z22 z23 z24 z25 z26 z27 z28 z29 z30 z31 z32 z33 z34 z35 z36 z37 z38 z39 z40 z41 z42 z43 z44 z45 z46 z47 z48 z49 z50 z51 z52 z53 z54 z55 z56 z57 z58 z59 z60 z61 z62 z63 z64 z65 z66 z67 z68 z69 z70 l0 u0 l1 u1 f1 f3 f4 e2 e3 e4 e5 e6 e7 e8 e9 e10 e11 e12 e13 e14 e15 e16 e17 e18 e19 e20 e21 e22 e23 e24 e25 e26 e27 e28 e29 e30 e31 e32 e33 e34 e35 e36 e37 e38 e39 e40 e41 e42 e43 e44 e45 e46 e47 e48 e49 e50 e51 e52 e53 e54 e55 e56 e57 e58 e59 e60 e61 e62 e63 e64 e65 e66 e67 e68 e69 e70 f559

theorem t38 (a0 a1 z2 z3 z4 z5 z6 z7 z8 z9 z10 z11 z12 z13 z14 z15 z16 z17 z18 z19 z20 z21 z22 z23 z24 z25 z26 z27 z28 z29 z30 z31 z32 z33 z34 z35 z36 z37 z38 z39 z40 z41 z42 z43 z44 z45 z46 z47 z48 z49 z50 z51 z52 z53 z54 z55 z56 z57 z58 z59 z60 z61 z62 z63 z64 z65 z66 z67 z68 z69 z70 : Int) (l0 : (-9223372036854775808 : Int) ≤ a0) (u0 : a0 ≤ (9223372036854775807 : Int)) (l1 : (-9223372036854775808 : Int) ≤ a1) (u1 : a1 ≤ (9223372036854775807 : Int)) (f1 : ¬ (549755813888 : Int) < a0) (f3 : ¬ (600 : Int) < a1) (f4 : (0 : Int) < a0) (e2 : z2 = (a0) % 4294967296) (e3 : z3 = z2 / 16777216) (e4 : z4 = z2 / 65536) (e5 : z5 = (z4) % 256) (e6 : z6 = z2 / 256) (e7 : z7 = (z6) % 256) (e8 : z8 = (z2) % 256) (e9 : z9 = ((a0 + (1 : Int))) % 4294967296) (e10 : z10 = z9 / 16777216) (e11 : z11 = z9 / 65536) (e12 : z12 = (z11) % 256) (e13 : z13 = z9 / 256) (e14 : z14 = (z13) % 256) (e15 : z15 = (z9) % 256) (e16 : z16 = ((a0 + (3 : Int))) % 4294967296) (e17 : z17 = z16 / 16777216) (e18 : z18 = z16 / 65536) (e19 : z19 = (z18) % 256) (e20 : z20 = z16 / 256) (e21 : z21 = (z20) % 256) (e22 : z22 = (z16) % 256) (e23 : z23 = ((a0 + (7 : Int))) % 4294967296) (e24 : z24 = z23 / 16777216) (e25 : z25 = z23 / 65536) (e26 : z26 = (z25) % 256) (e27 : z27 = z23 / 256) (e28 : z28 = (z27) % 256) (e29 : z29 = (z23) % 256) (e30 : z30 = ((a0 + (15 : Int))) % 4294967296) (e31 : z31 = z30 / 16777216) (e32 : z32 = z30 / 65536) (e33 : z33 = (z32) % 256) (e34 : z34 = z30 / 256) (e35 : z35 = (z34) % 256) (e36 : z36 = (z30) % 256) (e37 : z37 = ((a0 + (31 : Int))) % 4294967296) (e38 : z38 = z37 / 16777216) (e39 : z39 = z37 / 65536) (e40 : z40 = (z39) % 256) (e41 : z41 = z37 / 256) (e42 : z42 = (z41) % 256) (e43 : z43 = (z37) % 256) (e44 : z44 = ((a0 + (63 : Int))) % 4294967296) (e45 : z45 = z44 / 16777216) (e46 : z46 = z44 / 65536) (e47 : z47 = (z46) % 256) (e48 : z48 = z44 / 256) (e49 : z49 = (z48) % 256) (e50 : z50 = (z44) % 256) (e51 : z51 = ((a0 + (127 : Int))) % 4294967296) (e52 : z52 = z51 / 16777216) (e53 : z53 = z51 / 65536) (e54 : z54 = (z53) % 256) (e55 : z55 = z51 / 256) (e56 : z56 = (z55) % 256) (e57 : z57 = (z51) % 256) (e58 : z58 = ((a0 + (255 : Int))) % 4294967296) (e59 : z59 = z58 / 16777216) (e60 : z60 = z58 / 65536) (e61 : z61 = (z60) % 256) (e62 : z62 = z58 / 256) (e63 : z63 = (z62) % 256) (e64 : z64 = (z58) % 256) (e65 : z65 = ((a0 + (511 : Int))) % 4294967296) (e66 : z66 = z65 / 16777216) (e67 : z67 = z65 / 65536) (e68 : z68 = (z67) % 256) (e69 : z69 = z65 / 256) (e70 : z70 = (z69) % 256) (f531 : (527 : Int) ≤ a1) : R68.holds [a0, a1, z2, z3, z4, z5, z6, z7, z8, z9, z10, z11, z12, z13, z14, z15, z16, z17, z18, z19, z20, z21, z22, z23, z24, z25, z26, z27, z28, z29, z30, z31, z32, z33, z34, z35, z36, z37, z38, z39, z40, z41, z42, z43, z44, z45, z46, z47, z48, z49, z50, z51, z52, z53, z54, z55, z56, z57, z58, z59, z60, z61, z62, z63, z64, z65, z66, z67, z68, z69, z70] := by
 refine Pt.h_fork (fun (f532 : (528 : Int) ≤ a1) => ?_) (fun (f532 : ¬ (528 : Int) ≤ a1) => Pt.h_done)
 refine Pt.h_fork (fun (f533 : (529 : Int) ≤ a1) => ?_) (fun (f533 : ¬ (529 : Int) ≤ a1) => Pt.h_done)
 refine Pt.h_fork (fun (f534 : (530 : Int) ≤ a1) => ?_) (fun (f534 : ¬ (530 : Int) ≤ a1) => Pt.h_done)
 refine Pt.h_fork (fun (f535 : (531 : Int) ≤ a1) => ?_) (fun (f535 : ¬ (531 : Int) ≤ a1) => Pt.h_done)
 refine Pt.h_fork (fun (f536 : (532 : Int) ≤ a1) => ?_) (fun (f536 : ¬ (532 : Int) ≤ a1) => Pt.h_done)
 refine Pt.h_fork (fun (f537 : (533 : Int) ≤ a1) => ?_) (fun (f537 : ¬ (533 : Int) ≤ a1) => Pt.h_done)
 refine Pt.h_fork (fun (f538 : (534 : Int) ≤ a1) => ?_) (fun (f538 : ¬ (534 : Int) ≤ a1) => Pt.h_done)
 refine Pt.h_fork (fun (f539 : (535 : Int) ≤ a1) => ?_) (fun (f539 : ¬ (535 : Int) ≤ a1) => Pt.h_done)
 refine Pt.h_fork (fun (f540 : (536 : Int) ≤ a1) => ?_) (fun (f540 : ¬ (536 : Int) ≤ a1) => Pt.h_done)
 refine Pt.h_fork (fun (f541 : (537 : Int) ≤ a1) => ?_) (fun (f541 : ¬ (537 : Int) ≤ a1) => Pt.h_done)
 refine Pt.h_fork (fun (f542 : (538 : Int) ≤ a1) => ?_) (fun (f542 : ¬ (538 : Int) ≤ a1) => Pt.h_done)
 refine Pt.h_fork (fun (f543 : (539 : Int) ≤ a1) => ?_) (fun (f543 : ¬ (539 : Int) ≤ a1) => Pt.h_done)
 refine Pt.h_fork (fun (f544 : (540 : Int) ≤ a1) => ?_) (fun (f544 : ¬ (540 : Int) ≤ a1) => Pt.h_done)
 refine Pt.h_fork (fun (f545 : (541 : Int) ≤ a1) => ?_) (fun (f545 : ¬ (541 : Int) ≤ a1) => Pt.h_done)
 exact t39 a0 a1 z2 z3 z4 z5 z6 z7 z8 z9 z10 z11 z12 z13 z14 z15 z16 z17 z18 z19 z20 z21 z22 z23 z24 z25 z26 z27 z28 z29 z30 z31 z32 z33 z34 z35 z36 z37 z38 z39 z40 z41 z42 z43 z44 z45 z46 z47 z48 z49 z50 z51 z52 z53 z54 z55 z56 z57 z58 z59 z60 z61 z62 z63 z64 z65 z66 z67 z68 z69 z70 l0 u0 l1 u1 f1 f3 f4 e2 e3 e4 e5 e6 e7 e8 e9 e10 e11 e12 e13 e14 e15 e16 e17 e18 e19 e20 e21 e22 e23 e24 e25 e26 e27 e28 e29 e30 e31 e32 e33 e34 e35 e36 e37 e38 e39 e40 e41 e42 e43 e44 e45 e46 e47 e48 e49 e50 e51 e52 e53 e54 e55 e56 e57 e58 e59 e60 e61 e62 e63 e64 e65 e66 e67 e68 e69 e70 f545

theorem t37 (a0 a1 z2 z3 z4 z5 z6 z7 z8 z9 z10 z11 z12 z13 z14 z15 z16 z17 z18 z19 z20 z21 z22 z23 z24 z25 z26 z27 z28 z29 z30 z31 z32 z33 z34 z35 z36 z37 z38 z39 z40 z41 z42 z43 z44 z45 z46 z47 z48 z49 z50 z51 z52 z53 z54 z55 z56 z57 z58 z59 z60 z61 z62 z63 z64 z65 z66 z67 z68 z69 z70 : Int) (l0 : (-9223372036854775808 : Int) ≤ a0) (u0 : a0 ≤ (9223372036854775807 : Int)) (l1 : (-9223372036854775808 : Int) ≤ a1) (u1 : a1 ≤ (9223372036854775807 : Int)) (f1 : ¬ (549755813888 : Int) < a0) (f3 : ¬ (600 : Int) < a1) (f4 : (0 : Int) < a0) (e2 : z2 = (a0) % 4294967296) (e3 : z3 = z2 / 16777216) (e4 : z4 = z2 / 65536) (e5 : z5 = (z4) % 256) (e6 : z6 = z2 / 256) (e7 : z7 = (z6) % 256) (e8 : z8 = (z2) % 256) (e9 : z9 = ((a0 + (1 : Int))) % 4294967296) (e10 : z10 = z9 / 16777216) (e11 : z11 = z9 / 65536) (e12 : z12 = (z11) % 256) (e13 : z13 = z9 / 256) (e14 : z14 = (z13) % 256) (e15 : z15 = (z9) % 256) (e16 : z16 = ((a0 + (3 : Int))) % 4294967296) (e17 : z17 = z16 / 16777216) (e18 : z18 = z16 / 65536) (e19 : z19 = (z18) % 256) (e20 : z20 = z16 / 256) (e21 : z21 = (z20) % 256) (e22 : z22 = (z16) % 256) (e23 : z23 = ((a0 + (7 : Int))) % 4294967296) (e24 : z24 = z23 / 16777216) (e25 : z25 = z23 / 65536) (e26 : z26 = (z25) % 256) (e27 : z27 = z23 / 256) (e28 : z28 = (z27) % 256) (e29 : z29 = (z23) % 256) (e30 : z30 = ((a0 + (15 : Int))) % 4294967296) (e31 : z31 = z30 / 16777216) (e32 : z32 = z30 / 65536) (e33 : z33 = (z32) % 256) (e34 : z34 = z30 / 256) (e35 : z35 = (z34) % 256) (e36 : z36 = (z30) % 256) (e37 : z37 = ((a0 + (31 : Int))) % 4294967296) (e38 : z38 = z37 / 16777216) (e39 : z39 = z37 / 65536) (e40 : z40 = (z39) % 256) (e41 : z41 = z37 / 256) (e42 : z42 = (z41) % 256) (e43 : z43 = (z37) % 256) (e44 : z44 = ((a0 + (63 : Int))) % 4294967296) (e45 : z45 = z44 / 16777216) (e46 : z46 = z44 / 65536) (e47 : z47 = (z46) % 256) (e48 : z48 = z44 / 256) (e49 : z49 = (z48) % 256) (e50 : z50 = (z44) % 256) (e51 : z51 = ((a0 + (127 : Int))) % 4294967296) (e52 : z52 = z51 / 16777216) (e53 : z53 = z51 / 65536) (e54 : z54 = (z53) % 256) (e55 : z55 = z51 / 256) (e56 : z56 = (z55) % 256) (e57 : z57 = (z51) % 256) (e58 : z58 = ((a0 + (255 : Int))) % 4294967296) (e59 : z59 = z58 / 16777216) (e60 : z60 = z58 / 65536) (e61 : z61 = (z60) % 256) (e62 : z62 = z58 / 256) (e63 : z63 = (z62) % 256) (e64 : z64 = (z58) % 256) (e65 : z65 = ((a0 + (511 : Int))) % 4294967296) (e66 : z66 = z65 / 16777216) (e67 : z67 = z65 / 65536) (e68 : z68 = (z67) % 256) (e69 : z69 = z65 / 256) (e70 : z70 = (z69) % 256) (f517 : (513 : Int) ≤ a1) : R82.holds [a0, a1, z2, z3, z4, z5, z6, z7, z8, z9, z10, z11, z12, z13, z14, z15, z16, z17, z18, z19, z20, z21, z22, z23, z24, z25, z26, z27, z28, z29, z30, z31, z32, z33, z34, z35, z36, z37, z38, z39, z40, z41, z42, z43, z44, z45, z46, z47, z48, z49, z50, z51, z52, z53, z54, z55, z56, z57, z58, z59, z60, z61, z62, z63, z64, z65, z66, z67, z68, z69, z70] := by
 refine Pt.h_fork (fun (f518 : (514 : Int) ≤ a1) => ?_) (fun (f518 : ¬ (514 : Int) ≤ a1) => Pt.h_done)
 refine Pt.h_fork (fun (f519 : (515 : Int) ≤ a1) => ?_) (fun (f519 : ¬ (515 : Int) ≤ a1) => Pt.h_done)
 refine Pt.h_fork (fun (f520 : (516 : Int) ≤ a1) => ?_) (fun (f520 : ¬ (516 : Int) ≤ a1) => Pt.h_done)
 refine Pt.h_fork (fun (f521 : (517 : Int) ≤ a1) => ?_) (fun (f521 : ¬ (517 : Int) ≤ a1) => Pt.h_done)
 refine Pt.h_fork (fun (f522 : (518 : Int) ≤ a1) => ?_) (fun (f522 : ¬ (518 : Int) ≤ a1) => Pt.h_done)
 refine Pt.h_fork (fun (f523 : (519 : Int) ≤ a1) => ?_) (fun (f523 : ¬ (519 : Int) ≤ a1) => Pt.h_done)
 refine Pt.h_fork (fun (f524 : (520 : Int) ≤ a1) => ?_) (fun (f524 : ¬ (520 : Int) ≤ a1) => Pt.h_done)
 refine Pt.h_fork (fun (f525 : (521 : Int) ≤ a1) => ?_) (fun (f525 : ¬ (521 : Int) ≤ a1) => Pt.h_done)
 refine Pt.h_fork (fun (f526 : (522 : Int) ≤ a1) => ?_) (fun (f526 : ¬ (522 : Int) ≤ a1) => Pt.h_done)
 refine Pt.h_fork (fun (f527 : (523 : Int) ≤ a1) => ?_) (fun (f527 : ¬ (523 : Int) ≤ a1) => Pt.h_done)
 refine Pt.h_fork (fun (f528 : (524 : Int) ≤ a1) => ?_) (fun (f528 : ¬ (524 : Int) ≤ a1) => Pt.h_done)
 refine Pt.h_fork (fun (f529 : (525 : Int) ≤ a1) => ?_) (fun (f529 : ¬ (525 : Int) ≤ a1) => Pt.h_done)
 refine Pt.h_fork (fun (f530 : (526 : Int) ≤ a1) => ?_) (fun (f530 : ¬ (526 : Int) ≤ a1) => Pt.h_done)
 refine Pt.h_fork (fun (f531 : (527 : Int) ≤ a1) => ?_) (fun (f531 : ¬ (527 : Int) ≤ a1) => Pt.h_done)
 exact t38 a0 a1 z2 z3 z4 z5 z6 z7 z8 z9 z10 z11 z12 z13 z14 z15 z16 z17 z18 z19 z20 z21 z22 z23 z24 z25 z26 z27 z28 z29 z30 z31 z32 z33 z34 z35 z36 z37 z38 z39 z40 z41 z42 z43 z44 z45 z46 z47 z48 z49 z50 z51 z52 z53 z54 z55 z56 z57 z58 z59 z60 z61 z62 z63 z64 z65 z66 z67 z68 z69 z70 l0 u0 l1 u1 f1 f3 f4 e2 e3 e4 e5 e6 e7 e8 e9 e10 e11 e12 e13 e14 e15 e16 e17 e18 e19 e20 e21 e22 e23 e24 e25 e26 e27 e28 e29 e30 e31 e32 e33 e34 e35 e36 e37 e38 e39 e40 e41 e42 e43 e44 e45 e46 e47 e48 e49 e50 e51 e52 e53 e54 e55 e56 e57 e58 e59 e60 e61 e62 e63 e64 e65 e66 e67 e68 e69 e70 f531

theorem t36 (a0 a1 z2 z3 z4 z5 z6 z7 z8 z9 z10 z11 z12 z13 z14 z15 z16 z17 z18 z19 z20 z21 z22 z23 z24 z25 z26 z27 z28 z29 z30 z31 z32 z33 z34 z35 z36 z37 z38 z39 z40 z41 z42 z43 z44 z45 z46 z47 z48 z49 z50 z51 z52 z53 z54 z55 z56 z57 z58 z59 z60 z61 z62 z63 z64 : Int) (l0 : (-9223372036854775808 : Int) ≤ a0) (u0 : a0 ≤ (9223372036854775807 : Int)) (l1 : (-9223372036854775808 : Int) ≤ a1) (u1 : a1 ≤ (9223372036854775807 : Int)) (f1 : ¬ (549755813888 : Int) < a0) (f3 : ¬ (600 : Int) < a1) (f4 : (0 : Int) < a0) (e2 : z2 = (a0) % 4294967296) (e3 : z3 = z2 / 16777216) (e4 : z4 = z2 / 65536) (e5 : z5 = (z4) % 256) (e6 : z6 = z2 / 256) (e7 : z7 = (z6) % 256) (e8 : z8 = (z2) % 256) (e9 : z9 = ((a0 + (1 : Int))) % 4294967296) (e10 : z10 = z9 / 16777216) (e11 : z11 = z9 / 65536) (e12 : z12 = (z11) % 256) (e13 : z13 = z9 / 256) (e14 : z14 = (z13) % 256) (e15 : z15 = (z9) % 256) (e16 : z16 = ((a0 + (3 : Int))) % 4294967296) (e17 : z17 = z16 / 16777216) (e18 : z18 = z16 / 65536) (e19 : z19 = (z18) % 256) (e20 : z20 = z16 / 256) (e21 : z21 = (z20) % 256) (e22 : z22 = (z16) % 256) (e23 : z23 = ((a0 + (7 : Int))) % 4294967296) (e24 : z24 = z23 / 16777216) (e25 : z25 = z23 / 65536) (e26 : z26 = (z25) % 256) (e27 : z27 = z23 / 256) (e28 : z28 = (z27) % 256) (e29 : z29 = (z23) % 256) (e30 : z30 = ((a0 + (15 : Int))) % 4294967296) (e31 : z31 = z30 / 16777216) (e32 : z32 = z30 / 65536) (e33 : z33 = (z32) % 256) (e34 : z34 = z30 / 256) (e35 : z35 = (z34) % 256) (e36 : z36 = (z30) % 256) (e37 : z37 = ((a0 + (31 : Int))) % 4294967296) (e38 : z38 = z37 / 16777216) (e39 : z39 = z37 / 65536) (e40 : z40 = (z39) % 256) (e41 : z41 = z37 / 256) (e42 : z42 = (z41) % 256) (e43 : z43 = (z37) % 256) (e44 : z44 = ((a0 + (63 : Int))) % 4294967296) (e45 : z45 = z44 / 16777216) (e46 : z46 = z44 / 65536) (e47 : z47 = (z46) % 256) (e48 : z48 = z44 / 256) (e49 : z49 = (z48) % 256) (e50 : z50 = (z44) % 256) (e51 : z51 = ((a0 + (127 : Int))) % 4294967296) (e52 : z52 = z51 / 16777216) (e53 : z53 = z51 / 65536) (e54 : z54 = (z53) % 256) (e55 : z55 = z51 / 256) (e56 : z56 = (z55) % 256) (e57 : z57 = (z51) % 256) (e58 : z58 = ((a0 + (255 : Int))) % 4294967296) (e59 : z59 = z58 / 16777216) (e60 : z60 = z58 / 65536) (e61 : z61 = (z60) % 256) (e62 : z62 = z58 / 256) (e63 : z63 = (z62) % 256) (e64 : z64 = (z58) % 256) (f503 : (499 : Int) ≤ a1) : R96.holds [a0, a1, z2, z3, z4, z5, z6, z7, z8, z9, z10, z11, z12, z13, z14, z15, z16, z17, z18, z19, z20, z21, z22, z23, z24, z25, z26, z27, z28, z29, z30, z31, z32, z33, z34, z35, z36, z37, z38, z39, z40, z41, z42, z43, z44, z45, z46, z47, z48, z49, z50, z51, z52, z53, z54, z55, z56, z57, z58, z59, z60, z61, z62, z63, z64] := by
 refine Pt.h_fork (fun (f504 : (500 : Int) ≤ a1) => ?_) (fun (f504 : ¬ (500 : Int) ≤ a1) => Pt.h_done)
 refine Pt.h_fork (fun (f505 : (501 : Int) ≤ a1) => ?_) (fun (f505 : ¬ (501 : Int) ≤ a1) => Pt.h_done)
 refine Pt.h_fork (fun (f506 : (502 : Int) ≤ a1) => ?_) (fun (f506 : ¬ (502 : Int) ≤ a1) => Pt.h_done)
 refine Pt.h_fork (fun (f507 : (503 : Int) ≤ a1) => ?_) (fun (f507 : ¬ (503 : Int) ≤ a1) => Pt.h_done)
 refine Pt.h_fork (fun (f508 : (504 : Int) ≤ a1) => ?_) (fun (f508 : ¬ (504 : Int) ≤ a1) => Pt.h_done)
 refine Pt.h_fork (fun (f509 : (505 : Int) ≤ a1) => ?_) (fun (f509 : ¬ (505 : Int) ≤ a1) => Pt.h_done)
 refine Pt.h_fork (fun (f510 : (506 : Int) ≤ a1) => ?_) (fun (f510 : ¬ (506 : Int) ≤ a1) => Pt.h_done)
 refine Pt.h_fork (fun (f511 : (507 : Int) ≤ a1) => ?_) (fun (f511 : ¬ (507 : Int) ≤ a1) => Pt.h_done)
 refine Pt.h_fork (fun (f512 : (508 : Int) ≤ a1) => ?_) (fun (f512 : ¬ (508 : Int) ≤ a1) => Pt.h_done)
 refine Pt.h_fork (fun (f513 : (509 : Int) ≤ a1) => ?_) (fun (f513 : ¬ (509 : Int) ≤ a1) => Pt.h_done)
 refine Pt.h_fork (fun (f514 : (510 : Int) ≤ a1) => ?_) (fun (f514 : ¬ (510 : Int) ≤ a1) => Pt.h_done)
 refine Pt.h_fork (fun (f515 : (511 : Int) ≤ a1) => ?_) (fun (f515 : ¬ (511 : Int) ≤ a1) => Pt.h_done)
 obtain ⟨z65, e65⟩ : ∃ z : Int, z = ((a0 + (511 : Int))) % 4294967296 := ⟨_, rfl⟩
 refine Pt.h_new (v_wr rfl  ((wrap_u32 _).trans (o72 a0 z65 l0 u0 f1 f4 e65))) (show _ = [a0, a1, z2, z3, z4, z5, z6, z7, z8, z9, z10, z11, z12, z13, z14, z15, z16, z17, z18, z19, z20, z21, z22, z23, z24, z25, z26, z27, z28, z29, z30, z31, z32, z33, z34, z35, z36, z37, z38, z39, z40, z41, z42, z43, z44, z45, z46, z47, z48, z49, z50, z51, z52, z53, z54, z55, z56, z57, z58, z59, z60, z61, z62, z63, z64, z65] from rfl) ?_
 obtain ⟨z66, e66⟩ : ∃ z : Int, z = z65 / 16777216 := ⟨_, rfl⟩
 refine Pt.h_new (v_shr 24 16777216 rfl rfl (by decide) (by decide) ((o73 a0 z65 z66 l0 u0 f1 f4 e65 e66))) (show _ = [a0, a1, z2, z3, z4, z5, z6, z7, z8, z9, z10, z11, z12, z13, z14, z15, z16, z17, z18, z19, z20, z21, z22, z23, z24, z25, z26, z27, z28, z29, z30, z31, z32, z33, z34, z35, z36, z37, z38, z39, z40, z41, z42, z43, z44, z45, z46, z47, z48, z49, z50, z51, z52, z53, z54, z55, z56, z57, z58, z59, z60, z61, z62, z63, z64, z65, z66] from rfl) ?_
 refine Pt.h_is (v_wr rfl  ((wrap_u8 _).trans (o74 a0 z65 z66 l0 u0 f1 f4 e65 e66))) ?_
 obtain ⟨z67, e67⟩ : ∃ z : Int, z = z65 / 65536 := ⟨_, rfl⟩
 refine Pt.h_new (v_shr 16 65536 rfl rfl (by decide) (by decide) ((o75 a0 z65 z67 l0 u0 f1 f4 e65 e67))) (show _ = [a0, a1, z2, z3, z4, z5, z6, z7, z8, z9, z10, z11, z12, z13, z14, z15, z16, z17, z18, z19, z20, z21, z22, z23, z24, z25, z26, z27, z28, z29, z30, z31, z32, z33, z34, z35, z36, z37, z38, z39, z40, z41, z42, z43, z44, z45, z46, z47, z48, z49, z50, z51, z52, z53, z54, z55, z56, z57, z58, z59, z60, z61, z62, z63, z64, z65, z66, z67] from rfl) ?_
 obtain ⟨z68, e68⟩ : ∃ z : Int, z = (z67) % 256 := ⟨_, rfl⟩
 refine Pt.h_new (v_wr rfl  ((wrap_u8 _).trans (o76 a0 z65 z67 z68 l0 u0 f1 f4 e65 e67 e68))) (show _ = [a0, a1, z2, z3, z4, z5, z6, z7, z8, z9, z10, z11, z12, z13, z14, z15, z16, z17, z18, z19, z20, z21, z22, z23, z24, z25, z26, z27, z28, z29, z30, z31, z32, z33, z34, z35, z36, z37, z38, z39, z40, z41, z42, z43, z44, z45, z46, z47, z48, z49, z50, z51, z52, z53, z54, z55, z56, z57, z58, z59, z60, z61, z62, z63, z64, z65, z66, z67, z68] from rfl) ?_
 obtain ⟨z69, e69⟩ : ∃ z : Int, z = z65 / 256 := ⟨_, rfl⟩
 refine Pt.h_new (v_shr 8 256 rfl rfl (by decide) (by decide) ((o77 a0 z65 z69 l0 u0 f1 f4 e65 e69))) (show _ = [a0, a1, z2, z3, z4, z5, z6, z7, z8, z9, z10, z11, z12, z13, z14, z15, z16, z17, z18, z19, z20, z21, z22, z23, z24, z25, z26, z27, z28, z29, z30, z31, z32, z33, z34, z35, z36, z37, z38, z39, z40, z41, z42, z43, z44, z45, z46, z47, z48, z49, z50, z51, z52, z53, z54, z55, z56, z57, z58, z59, z60, z61, z62, z63, z64, z65, z66, z67, z68, z69] from rfl) ?_
 obtain ⟨z70, e70⟩ : ∃ z : Int, z = (z69) % 256 := ⟨_, rfl⟩
 refine Pt.h_new (v_wr rfl  ((wrap_u8 _).trans (o78 a0 z65 z69 z70 l0 u0 f1 f4 e65 e69 e70))) (show _ = [a0, a1, z2, z3, z4, z5, z6, z7, z8, z9, z10, z11, z12, z13, z14, z15, z16, z17, z18, z19, z20, z21, z22, z23, z24, z25, z26, z27, z28, z29, z30, z31, z32, z33, z34, z35, z36, z37, z38, z39, z40, z41, z42, z43, z44, z45, z46, z47, z48, z49, z50, z51, z52, z53, z54, z55, z56, z57, z58, z59, z60, z61, z62, z63, z64, z65, z66, z67, z68, z69, z70] from rfl) ?_
 refine Pt.h_is (v_wr rfl  ((wrap_u8 _).trans (o79 a0 z58 z64 z65 l0 u0 f1 f4 e58 e64 e65))) ?_
 refine Pt.h_fork (fun (f516 : (512 : Int) ≤ a1) => ?_) (fun (f516 : ¬ (512 : Int) ≤ a1) => Pt.h_done)
 refine Pt.h_fork (fun (f517 : (513 : Int) ≤ a1) => ?_) (fun (f517 : ¬ (513 : Int) ≤ a1) => Pt.h_done)
 exact t37 a0 a1 z2 z3 z4 z5 z6 z7 z8 z9 z10 z11 z12 z13 z14 z15 z16 z17 z18 z19 z20 z21 z22 z23 z24 z25 z26 z27 z28 z29 z30 z31 z32 z33 z34 z35 z36 z37 z38 z39 z40 z41 z42 z43 z44 z45 z46 z47 z48 z49 z50 z51 z52 z53 z54 z55 z56 z57 z58 z59 z60 z61 z62 z63 z64 z65 z66 z67 z68 z69 z70 l0 u0 l1 u1 f1 f3 f4 e2 e3 e4 e5 e6 e7 e8 e9 e10 e11 e12 e13 e14 e15 e16 e17 e18 e19 e20 e21 e22 e23 e24 e25 e26 e27 e28 e29 e30 e31 e32 e33 e34 e35 e36 e37 e38 e39 e40 e41 e42 e43 e44 e45 e46 e47 e48 e49 e50 e51 e52 e53 e54 e55 e56 e57 e58 e59 e60 e61 e62 e63 e64 e65 e66 e67 e68 e69 e70 f517

theorem t35 (a0 a1 z2 z3 z4 z5 z6 z7 z8 z9 z10 z11 z12 z13 z14 z15 z16 z17 z18 z19 z20 z21 z22 z23 z24 z25 z26 z27 z28 z29 z30 z31 z32 z33 z34 z35 z36 z37 z38 z39 z40 z41 z42 z43 z44 z45 z46 z47 z48 z49 z50 z51 z52 z53 z54 z55 z56 z57 z58 z59 z60 z61 z62 z63 z64 : Int) (l0 : (-9223372036854775808 : Int) ≤ a0) (u0 : a0 ≤ (9223372036854775807 : Int)) (l1 : (-9223372036854775808 : Int) ≤ a1) (u1 : a1 ≤ (9223372036854775807 : Int)) (f1 : ¬ (549755813888 : Int) < a0) (f3 : ¬ (600 : Int) < a1) (f4 : (0 : Int) < a0) (e2 : z2 = (a0) % 4294967296) (e3 : z3 = z2 / 16777216) (e4 : z4 = z2 / 65536) (e5 : z5 = (z4) % 256) (e6 : z6 = z2 / 256) (e7 : z7 = (z6) % 256) (e8 : z8 = (z2) % 256) (e9 : z9 = ((a0 + (1 : Int))) % 4294967296) (e10 : z10 = z9 / 16777216) (e11 : z11 = z9 / 65536) (e12 : z12 = (z11) % 256) (e13 : z13 = z9 / 256) (e14 : z14 = (z13) % 256) (e15 : z15 = (z9) % 256) (e16 : z16 = ((a0 + (3 : Int))) % 4294967296) (e17 : z17 = z16 / 16777216) (e18 : z18 = z16 / 65536) (e19 : z19 = (z18) % 256) (e20 : z20 = z16 / 256) (e21 : z21 = (z20) % 256) (e22 : z22 = (z16) % 256) (e23 : z23 = ((a0 + (7 : Int))) % 4294967296) (e24 : z24 = z23 / 16777216) (e25 : z25 = z23 / 65536) (e26 : z26 = (z25) % 256) (e27 : z27 = z23 / 256) (e28 : z28 = (z27) % 256) (e29 : z29 = (z23) % 256) (e30 : z30 = ((a0 + (15 : Int))) % 4294967296) (e31 : z31 = z30 / 16777216) (e32 : z32 = z30 / 65536) (e33 : z33 = (z32) % 256) (e34 : z34 = z30 / 256) (e35 : z35 = (z34) % 256) (e36 : z36 = (z30) % 256) (e37 : z37 = ((a0 + (31 : Int))) % 4294967296) (e38 : z38 = z37 / 16777216) (e39 : z39 = z37 / 65536) (e40 : z40 = (z39) % 256) (e41 : z41 = z37 / 256) (e42 : z42 = (z41) % 256) (e43 : z43 = (z37) % 256) (e44 : z44 = ((a0 + (63 : Int))) % 4294967296) (e45 : z45 = z44 / 16777216) (e46 : z46 = z44 / 65536) (e47 : z47 = (z46) % 256) (e48 : z48 = z44 / 256) (e49 : z49 = (z48) % 256) (e50 : z50 = (z44) % 256) (e51 : z51 = ((a0 + (127 : Int))) % 4294967296) (e52 : z52 = z51 / 16777216) (e53 : z53 = z51 / 65536) (e54 : z54 = (z53) % 256) (e55 : z55 = z51 / 256) (e56 : z56 = (z55) % 256) (e57 : z57 = (z51) % 256) (e58 : z58 = ((a0 + (255 : Int))) % 4294967296) (e59 : z59 = z58 / 16777216) (e60 : z60 = z58 / 65536) (e61 : z61 = (z60) % 256) (e62 : z62 = z58 / 256) (e63 : z63 = (z62) % 256) (e64 : z64 = (z58) % 256) (f489 : (485 : Int) ≤ a1) : R110.holds [a0, a1, z2, z3, z4, z5, z6, z7, z8, z9, z10, z11, z12, z13, z14, z15, z16, z17, z18, z19, z20, z21, z22, z23, z24, z25, z26, z27, z28, z29, z30, z31, z32, z33, z34, z35, z36, z37, z38, z39, z40, z41, z42, z43, z44, z45, z46, z47, z48, z49, z50, z51, z52, z53, z54, z55, z56, z57, z58, z59, z60, z61, z62, z63, z64] := by
 refine Pt.h_fork (fun (f490 : (486 : Int) ≤ a1) => ?_) (fun (f490 : ¬ (486 : Int) ≤ a1) => Pt.h_done)
 refine Pt.h_fork (fun (f491 : (487 : Int) ≤ a1) => ?_) (fun (f491 : ¬ (487 : Int) ≤ a1) => Pt.h_done)
 refine Pt.h_fork (fun (f492 : (488 : Int) ≤ a1) => ?_) (fun (f492 : ¬ (488 : Int) ≤ a1) => Pt.h_done)
 refine Pt.h_fork (fun (f493 : (489 : Int) ≤ a1) => ?_) (fun (f493 : ¬ (489 : Int) ≤ a1) => Pt.h_done)
 refine Pt.h_fork (fun (f494 : (490 : Int) ≤ a1) => ?_) (fun (f494 : ¬ (490 : Int) ≤ a1) => Pt.h_done)
 refine Pt.h_fork (fun (f495 : (491 : Int) ≤ a1) => ?_) (fun (f495 : ¬ (491 : Int) ≤ a1) => Pt.h_done)
 refine Pt.h_fork (fun (f496 : (492 : Int) ≤ a1) => ?_) (fun (f496 : ¬ (492 : Int) ≤ a1) => Pt.h_done)
 refine Pt.h_fork (fun (f497 : (493 : Int) ≤ a1) => ?_) (fun (f497 : ¬ (493 : Int) ≤ a1) => Pt.h_done)
 refine Pt.h_fork (fun (f498 : (494 : Int) ≤ a1) => ?_) (fun (f498 : ¬ (494 : Int) ≤ a1) => Pt.h_done)
 refine Pt.h_fork (fun (f499 : (495 : Int) ≤ a1) => ?_) (fun (f499 : ¬ (495 : Int) ≤ a1) => Pt.h_done)
 refine Pt.h_fork (fun (f500 : (496 : Int) ≤ a1) => ?_) (fun (f500 : ¬ (496 : Int) ≤ a1) => Pt.h_done)
 refine Pt.h_fork (fun (f501 : (497 : Int) ≤ a1) => ?_) (fun (f501 : ¬ (497 : Int) ≤ a1) => Pt.h_done)
 refine Pt.h_fork (fun (f502 : (498 : Int) ≤ a1) => ?_) (fun (f502 : ¬ (498 : Int) ≤ a1) => Pt.h_done)
 refine Pt.h_fork (fun (f503 : (499 : Int) ≤ a1) => ?_) (fun (f503 : ¬ (499 : Int) ≤ a1) => Pt.h_done)
 exact t36 a0 a1 z2 z3 z4 z5 z6 z7 z8 z9 z10 z11 z12 z13 z14 z15 z16 z17 z18 z19 z20 z21 z22 z23 z24 z25 z26 z27 z28 z29 z30 z31 z32 z33 z34 z35 z36 z37 z38 z39 z40 z41 z42 z43 z44 z45 z46 z47 z48 z49 z50 z51 z52 z53 z54 z55 z56 z57 z58 z59 z60 z61 z62 z63 z64 l0 u0 l1 u1 f1 f3 f4 e2 e3 e4 e5 e6 e7 e8 e9 e10 e11 e12 e13 e14 e15 e16 e17 e18 e19 e20 e21 e22 e23 e24 e25 e26 e27 e28 e29 e30 e31 e32 e33 e34 e35 e36 e37 e38 e39 e40 e41 e42 e43 e44 e45 e46 e47 e48 e49 e50 e51 e52 e53 e54 e55 e56 e57 e58 e59 e60 e61 e62 e63 e64 f503

theorem t34 (a0 a1 z2 z3 z4 z5 z6 z7 z8 z9 z10 z11 z12 z13 z14 z15 z16 z17 z18 z19 z20 z21 z22 z23 z24 z25 z26 z27 z28 z29 z30 z31 z32 z33 z34 z35 z36 z37 z38 z39 z40 z41 z42 z43 z44 z45 z46 z47 z48 z49 z50 z51 z52 z53 z54 z55 z56 z57 z58 z59 z60 z61 z62 z63 z64 : Int) (l0 : (-9223372036854775808 : Int) ≤ a0) (u0 : a0 ≤ (9223372036854775807 : Int)) (l1 : (-9223372036854775808 : Int) ≤ a1) (u1 : a1 ≤ (9223372036854775807 : Int)) (f1 : ¬ (549755813888 : Int) < a0) (f3 : ¬ (600 : Int) < a1) (f4 : (0 : Int) < a0) (e2 : z2 = (a0) % 4294967296) (e3 : z3 = z2 / 16777216) (e4 : z4 = z2 / 65536) (e5 : z5 = (z4) % 256) (e6 : z6 = z2 / 256) (e7 : z7 = (z6) % 256) (e8 : z8 = (z2) % 256) (e9 : z9 = ((a0 + (1 : Int))) % 4294967296) (e10 : z10 = z9 / 16777216) (e11 : z11 = z9 / 65536) (e12 : z12 = (z11) % 256) (e13 : z13 = z9 / 256) (e14 : z14 = (z13) % 256) (e15 : z15 = (z9) % 256) (e16 : z16 = ((a0 + (3 : Int))) % 4294967296) (e17 : z17 = z16 / 16777216) (e18 : z18 = z16 / 65536) (e19 : z19 = (z18) % 256) (e20 : z20 = z16 / 256) (e21 : z21 = (z20) % 256) (e22 : z22 = (z16) % 256) (e23 : z23 = ((a0 + (7 : Int))) % 4294967296) (e24 : z24 = z23 / 16777216) (e25 : z25 = z23 / 65536) (e26 : z26 = (z25) % 256) (e27 : z27 = z23 / 256) (e28 : z28 = (z27) % 256) (e29 : z29 = (z23) % 256) (e30 : z30 = ((a0 + (15 : Int))) % 4294967296) (e31 : z31 = z30 / 16777216) (e32 : z32 = z30 / 65536) (e33 : z33 = (z32) % 256) (e34 : z34 = z30 / 256) (e35 : z35 = (z34) % 256) (e36 : z36 = (z30) % 256) (e37 : z37 = ((a0 + (31 : Int))) % 4294967296) (e38 : z38 = z37 / 16777216) (e39 : z39 = z37 / 65536) (e40 : z40 = (z39) % 256) (e41 : z41 = z37 / 256) (e42 : z42 = (z41) % 256) (e43 : z43 = (z37) % 256) (e44 : z44 = ((a0 + (63 : Int))) % 4294967296) (e45 : z45 = z44 / 16777216) (e46 : z46 = z44 / 65536) (e47 : z47 = (z46) % 256) (e48 : z48 = z44 / 256) (e49 : z49 = (z48) % 256) (e50 : z50 = (z44) % 256) (e51 : z51 = ((a0 + (127 : Int))) % 4294967296) (e52 : z52 = z51 / 16777216) (e53 : z53 = z51 / 65536) (e54 : z54 = (z53) % 256) (e55 : z55 = z51 / 256) (e56 : z56 = (z55) % 256) (e57 : z57 = (z51) % 256) (e58 : z58 = ((a0 + (255 : Int))) % 4294967296) (e59 : z59 = z58 / 16777216) (e60 : z60 = z58 / 65536) (e61 : z61 = (z60) % 256) (e62 : z62 = z58 / 256) (e63 : z63 = (z62) % 256) (e64 : z64 = (z58) % 256) (f475 : (471 : Int) ≤ a1) : R124.holds [a0, a1, z2, z3, z4, z5, z6, z7, z8, z9, z10, z11, z12, z13, z14, z15, z16, z17, z18, z19, z20, z21, z22, z23, z24, z25, z26, z27, z28, z29, z30, z31, z32, z33, z34, z35, z36, z37, z38, z39, z40, z41, z42, z43, z44, z45, z46, z47, z48, z49, z50, z51, z52, z53, z54, z55, z56, z57, z58, z59, z60, z61, z62, z63, z64] := by
 refine Pt.h_fork (fun (f476 : (472 : Int) ≤ a1) => ?_) (fun (f476 : ¬ (472 : Int) ≤ a1) => Pt.h_done)
 refine Pt.h_fork (fun (f477 : (473 : Int) ≤ a1) => ?_) (fun (f477 : ¬ (473 : Int) ≤ a1) => Pt.h_done)
 refine Pt.h_fork (fun (f478 : (474 : Int) ≤ a1) => ?_) (fun (f478 : ¬ (474 : Int) ≤ a1) => Pt.h_done)
 refine Pt.h_fork (fun (f479 : (475 : Int) ≤ a1) => ?_) (fun (f479 : ¬ (475 : Int) ≤ a1) => Pt.h_done)
 refine Pt.h_fork (fun (f480 : (476 : Int) ≤ a1) => ?_) (fun (f480 : ¬ (476 : Int) ≤ a1) => Pt.h_done)
 refine Pt.h_fork (fun (f481 : (477 : Int) ≤ a1) => ?_) (fun (f481 : ¬ (477 : Int) ≤ a1) => Pt.h_done)
 refine Pt.h_fork (fun (f482 : (478 : Int) ≤ a1) => ?_) (fun (f482 : ¬ (478 : Int) ≤ a1) => Pt.h_done)
 refine Pt.h_fork (fun (f483 : (479 : Int) ≤ a1) => ?_) (fun (f483 : ¬ (479 : Int) ≤ a1) => Pt.h_done)
 refine Pt.h_fork (fun (f484 : (480 : Int) ≤ a1) => ?_) (fun (f484 : ¬ (480 : Int) ≤ a1) => Pt.h_done)
 refine Pt.h_fork (fun (f485 : (481 : Int) ≤ a1) => ?_) (fun (f485 : ¬ (481 : Int) ≤ a1) => Pt.h_done)
 refine Pt.h_fork (fun (f486 : (482 : Int) ≤ a1) => ?_) (fun (f486 : ¬ (482 : Int) ≤ a1) => Pt.h_done)
 refine Pt.h_fork (fun (f487 : (483 : Int) ≤ a1) => ?_) (fun (f487 : ¬ (483 : Int) ≤ a1) => Pt.h_done)
 refine Pt.h_fork (fun (f488 : (484 : Int) ≤ a1) => ?_) (fun (f488 : ¬ (484 : Int) ≤ a1) => Pt.h_done)
 refine Pt.h_fork (fun (f489 : (485 : Int) ≤ a1) => ?_) (fun (f489 : ¬ (485 : Int) ≤ a1) => Pt.h_done)
 exact t35 a0 a1 z2 z3 z4 z5 z6 z7 z8 z9 z10 z11 z12 z13 z14 z15 z16 z17 z18 z19 z20 z21 z22 z23 z24 z25 z26 z27 z28 z29 z30 z31 z32 z33 z34 z35 z36 z37 z38 z39 z40 z41 z42 z43 z44 z45 z46 z47 z48 z49 z50 z51 z52 z53 z54 z55 z56 z57 z58 z59 z60 z61 z62 z63 z64 l0 u0 l1 u1 f1 f3 f4 e2 e3 e4 e5 e6 e7 e8 e9 e10 e11 e12 e13 e14 e15 e16 e17 e18 e19 e20 e21 e22 e23 e24 e25 e26 e27 e28 e29 e30 e31 e32 e33 e34 e35 e36 e37 e38 e39 e40 e41 e42 e43 e44 e45 e46 e47 e48 e49 e50 e51 e52 e53 e54 e55 e56 e57 e58 e59 e60 e61 e62 e63 e64 f489

theorem t33 (a0 a1 z2 z3 z4 z5 z6 z7 z8 z9 z10 z11 z12 z13 z14 z15 z16 z17 z18 z19 z20 z21 z22 z23 z24 z25 z26 z27 z28 z29 z30 z31 z32 z33 z34 z35 z36 z37 z38 z39 z40 z41 z42 z43 z44 z45 z46 z47 z48 z49 z50 z51 z52 z53 z54 z55 z56 z57 z58 z59 z60 z61 z62 z63 z64 : Int) (l0 : (-9223372036854775808 : Int) ≤ a0) (u0 : a0 ≤ (9223372036854775807 : Int)) (l1 : (-9223372036854775808 : Int) ≤ a1) (u1 : a1 ≤ (9223372036854775807 : Int)) (f1 : ¬ (549755813888 : Int) < a0) (f3 : ¬ (600 : Int) < a1) (f4 : (0 : Int) < a0) (e2 : z2 = (a0) % 4294967296) (e3 : z3 = z2 / 16777216) (e4 : z4 = z2 / 65536) (e5 : z5 = (z4) % 256) (e6 : z6 = z2 / 256) (e7 : z7 = (z6) % 256) (e8 : z8 = (z2) % 256) (e9 : z9 = ((a0 + (1 : Int))) % 4294967296) (e10 : z10 = z9 / 16777216) (e11 : z11 = z9 / 65536) (e12 : z12 = (z11) % 256) (e13 : z13 = z9 / 256) (e14 : z14 = (z13) % 256) (e15 : z15 = (z9) % 256) (e16 : z16 = ((a0 + (3 : Int))) % 4294967296) (e17 : z17 = z16 / 16777216) (e18 : z18 = z16 / 65536) (e19 : z19 = (z18) % 256) (e20 : z20 = z16 / 256) (e21 : z21 = (z20) % 256) (e22 : z22 = (z16) % 256) (e23 : z23 = ((a0 + (7 : Int))) % 4294967296) (e24 : z24 = z23 / 16777216) (e25 : z25 = z23 / 65536) (e26 : z26 = (z25) % 256) (e27 : z27 = z23 / 256) (e28 : z28 = (z27) % 256) (e29 : z29 = (z23) % 256) (e30 : z30 = ((a0 + (15 : Int))) % 4294967296) (e31 : z31 = z30 / 16777216) (e32 : z32 = z30 / 65536) (e33 : z33 = (z32) % 256) (e34 : z34 = z30 / 256) (e35 : z35 = (z34) % 256) (e36 : z36 = (z30) % 256) (e37 : z37 = ((a0 + (31 : Int))) % 4294967296) (e38 : z38 = z37 / 16777216) (e39 : z39 = z37 / 65536) (e40 : z40 = (z39) % 256) (e41 : z41 = z37 / 256) (e42 : z42 = (z41) % 256) (e43 : z43 = (z37) % 256) (e44 : z44 = ((a0 + (63 : Int))) % 4294967296) (e45 : z45 = z44 / 16777216) (e46 : z46 = z44 / 65536) (e47 : z47 = (z46) % 256) (e48 : z48 = z44 / 256) (e49 : z49 = (z48) % 256) (e50 : z50 = (z44) % 256) (e51 : z51 = ((a0 + (127 : Int))) % 4294967296) (e52 : z52 = z51 / 16777216) (e53 : z53 = z51 / 65536) (e54 : z54 = (z53) % 256) (e55 : z55 = z51 / 256) (e56 : z56 = (z55) % 256) (e57 : z57 = (z51) % 256) (e58 : z58 = ((a0 + (255 : Int))) % 4294967296) (e59 : z59 = z58 / 16777216) (e60 : z60 = z58 / 65536) (e61 : z61 = (z60) % 256) (e62 : z62 = z58 / 256) (e63 : z63 = (z62) % 256) (e64 : z64 = (z58) % 256) (f461 : (457 : Int) ≤ a1) : R138.holds [a0, a1, z2, z3, z4, z5, z6, z7, z8, z9, z10, z11, z12, z13, z14, z15, z16, z17, z18, z19, z20, z21, z22, z23, z24, z25, z26, z27, z28, z29, z30, z31, z32, z33, z34, z35, z36, z37, z38, z39, z40, z41, z42, z43, z44, z45, z46, z47, z48, z49, z50, z51, z52, z53, z54, z55, z56, z57, z58, z59, z60, z61, z62, z63, z64] := by
 refine Pt.h_fork (fun (f462 : (458 : Int) ≤ a1) => ?_) (fun (f462 : ¬ (458 : Int) ≤ a1) => Pt.h_done)
 refine Pt.h_fork (fun (f463 : (459 : Int) ≤ a1) => ?_) (fun (f463 : ¬ (459 : Int) ≤ a1) => Pt.h_done)
 refine Pt.h_fork (fun (f464 : (460 : Int) ≤ a1) => ?_) (fun (f464 : ¬ (460 : Int) ≤ a1) => Pt.h_done)
 refine Pt.h_fork (fun (f465 : (461 : Int) ≤ a1) => ?_) (fun (f465 : ¬ (461 : Int) ≤ a1) => Pt.h_done)
 refine Pt.h_fork (fun (f466 : (462 : Int) ≤ a1) => ?_) (fun (f466 : ¬ (462 : Int) ≤ a1) => Pt.h_done)
 refine Pt.h_fork (fun (f467 : (463 : Int) ≤ a1) => ?_) (fun (f467 : ¬ (463 : Int) ≤ a1) => Pt.h_done)
 refine Pt.h_fork (fun (f468 : (464 : Int) ≤ a1) => ?_) (fun (f468 : ¬ (464 : Int) ≤ a1) => Pt.h_done)
 refine Pt.h_fork (fun (f469 : (465 : Int) ≤ a1) => ?_) (fun (f469 : ¬ (465 : Int) ≤ a1) => Pt.h_done)
 refine Pt.h_fork (fun (f470 : (466 : Int) ≤ a1) => ?_) (fun (f470 : ¬ (466 : Int) ≤ a1) => Pt.h_done)
 refine Pt.h_fork (fun (f471 : (467 : Int) ≤ a1) => ?_) (fun (f471 : ¬ (467 : Int) ≤ a1) => Pt.h_done)
 refine Pt.h_fork (fun (f472 : (468 : Int) ≤ a1) => ?_) (fun (f472 : ¬ (468 : Int) ≤ a1) => Pt.h_done)
 refine Pt.h_fork (fun (f473 : (469 : Int) ≤ a1) => ?_) (fun (f473 : ¬ (469 : Int) ≤ a1) => Pt.h_done)
 refine Pt.h_fork (fun (f474 : (470 : Int) ≤ a1) => ?_) (fun (f474 : ¬ (470 : Int) ≤ a1) => Pt.h_done)
 refine Pt.h_fork (fun (f475 : (471 : Int) ≤ a1) => ?_) (fun (f475 : ¬ (471 : Int) ≤ a1) => Pt.h_done)
 exact t34 a0 a1 z2 z3 z4 z5 z6 z7 z8 z9 z10 z11 z12 z13 z14 z15 z16 z17 z18 z19 z20 z21 z22 z23 z24 z25 z26 z27 z28 z29 z30 z31 z32 z33 z34 z35 z36 z37 z38 z39 z40 z41 z42 z43 z44 z45 z46 z47 z48 z49 z50 z51 z52 z53 z54 z55 z56 z57 z58 z59 z60 z61 z62 z63 z64 l0 u0 l1 u1 f1 f3 f4 e2 e3 e4 e5 e6 e7 e8 e9 e10 e11 e12 e13 e14 e15 e16 e17 e18 e19 e20 e21 e22 e23 e24 e25 e26 e27 e28 e29 e30 e31 e32 e33 e34 e35 e36 e37 e38 e39 e40 e41 e42 e43 e44 e45 e46 e47 e48 e49 e50 e51 e52 e53 e54 e55 e56 e57 e58 e59 e60 e61 e62 e63 e64 f475

theorem t32 (a0 a1 z2 z3 z4 z5 z6 z7 z8 z9 z10 z11 z12 z13 z14 z15 z16 z17 z18 z19 z20 z21 z22 z23 z24 z25 z26 z27 z28 z29 z30 z31 z32 z33 z34 z35 z36 z37 z38 z39 z40 z41 z42 z43 z44 z45 z46 z47 z48 z49 z50 z51 z52 z53 z54 z55 z56 z57 z58 z59 z60 z61 z62 z63 z64 : Int) (l0 : (-9223372036854775808 : Int) ≤ a0) (u0 : a0 ≤ (9223372036854775807 : Int)) (l1 : (-9223372036854775808 : Int) ≤ a1) (u1 : a1 ≤ (9223372036854775807 : Int)) (f1 : ¬ (549755813888 : Int) < a0) (f3 : ¬ (600 : Int) < a1) (f4 : (0 : Int) < a0) (e2 : z2 = (a0) % 4294967296) (e3 : z3 = z2 / 16777216) (e4 : z4 = z2 / 65536) (e5 : z5 = (z4) % 256) (e6 : z6 = z2 / 256) (e7 : z7 = (z6) % 256) (e8 : z8 = (z2) % 256) (e9 : z9 = ((a0 + (1 : Int))) % 4294967296) (e10 : z10 = z9 / 16777216) (e11 : z11 = z9 / 65536) (e12 : z12 = (z11) % 256) (e13 : z13 = z9 / 256) (e14 : z14 = (z13) % 256) (e15 : z15 = (z9) % 256) (e16 : z16 = ((a0 + (3 : Int))) % 4294967296) (e17 : z17 = z16 / 16777216) (e18 : z18 = z16 / 65536) (e19 : z19 = (z18) % 256) (e20 : z20 = z16 / 256) (e21 : z21 = (z20) % 256) (e22 : z22 = (z16) % 256) (e23 : z23 = ((a0 + (7 : Int))) % 4294967296) (e24 : z24 = z23 / 16777216) (e25 : z25 = z23 / 65536) (e26 : z26 = (z25) % 256) (e27 : z27 = z23 / 256) (e28 : z28 = (z27) % 256) (e29 : z29 = (z23) % 256) (e30 : z30 = ((a0 + (15 : Int))) % 4294967296) (e31 : z31 = z30 / 16777216) (e32 : z32 = z30 / 65536) (e33 : z33 = (z32) % 256) (e34 : z34 = z30 / 256) (e35 : z35 = (z34) % 256) (e36 : z36 = (z30) % 256) (e37 : z37 = ((a0 + (31 : Int))) % 4294967296) (e38 : z38 = z37 / 16777216) (e39 : z39 = z37 / 65536) (e40 : z40 = (z39) % 256) (e41 : z41 = z37 / 256) (e42 : z42 = (z41) % 256) (e43 : z43 = (z37) % 256) (e44 : z44 = ((a0 + (63 : Int))) % 4294967296) (e45 : z45 = z44 / 16777216) (e46 : z46 = z44 / 65536) (e47 : z47 = (z46) % 256) (e48 : z48 = z44 / 256) (e49 : z49 = (z48) % 256) (e50 : z50 = (z44) % 256) (e51 : z51 = ((a0 + (127 : Int))) % 4294967296) (e52 : z52 = z51 / 16777216) (e53 : z53 = z51 / 65536) (e54 : z54 = (z53) % 256) (e55 : z55 = z51 / 256) (e56 : z56 = (z55) % 256) (e57 : z57 = (z51) % 256) (e58 : z58 = ((a0 + (255 : Int))) % 4294967296) (e59 : z59 = z58 / 16777216) (e60 : z60 = z58 / 65536) (e61 : z61 = (z60) % 256) (e62 : z62 = z58 / 256) (e63 : z63 = (z62) % 256) (e64 : z64 = (z58) % 256) (f447 : (443 : Int) ≤ a1) : R152.holds [a0, a1, z2, z3, z4, z5, z6, z7, z8, z9, z10, z11, z12, z13, z14, z15, z16, z17, z18, z19, z20, z21, z22, z23, z24, z25, z26, z27, z28, z29, z30, z31, z32, z33, z34, z35, z36, z37, z38, z39, z40, z41, z42, z43, z44, z45, z46, z47, z48, z49, z50, z51, z52, z53, z54, z55, z56, z57, z58, z59, z60, z61, z62, z63, z64] := by
 refine Pt.h_fork (fun (f448 : (444 : Int) ≤ a1) => ?_) (fun (f448 : ¬ (444 : Int) ≤ a1) => Pt.h_done)
 refine Pt.h_fork (fun (f449 : (445 : Int) ≤ a1) => ?_) (fun (f449 : ¬ (445 : Int) ≤ a1) => Pt.h_done)
 refine Pt.h_fork (fun (f450 : (446 : Int) ≤ a1) => ?_) (fun (f450 : ¬ (446 : Int) ≤ a1) => Pt.h_done)
 refine Pt.h_fork (fun (f451 : (447 : Int) ≤ a1) => ?_) (fun (f451 : ¬ (447 : Int) ≤ a1) => Pt.h_done)
 refine Pt.h_fork (fun (f452 : (448 : Int) ≤ a1) => ?_) (fun (f452 : ¬ (448 : Int) ≤ a1) => Pt.h_done)
 refine Pt.h_fork (fun (f453 : (449 : Int) ≤ a1) => ?_) (fun (f453 : ¬ (449 : Int) ≤ a1) => Pt.h_done)
 refine Pt.h_fork (fun (f454 : (450 : Int) ≤ a1) => ?_) (fun (f454 : ¬ (450 : Int) ≤ a1) => Pt.h_done)
 refine Pt.h_fork (fun (f455 : (451 : Int) ≤ a1) => ?_) (fun (f455 : ¬ (451 : Int) ≤ a1) => Pt.h_done)
 refine Pt.h_fork (fun (f456 : (452 : Int) ≤ a1) => ?_) (fun (f456 : ¬ (452 : Int) ≤ a1) => Pt.h_done)
 refine Pt.h_fork (fun (f457 : (453 : Int) ≤ a1) => ?_) (fun (f457 : ¬ (453 : Int) ≤ a1) => Pt.h_done)
 refine Pt.h_fork (fun (f458 : (454 : Int) ≤ a1) => ?_) (fun (f458 : ¬ (454 : Int) ≤ a1) => Pt.h_done)
 refine Pt.h_fork (fun (f459 : (455 : Int) ≤ a1) => ?_) (fun (f459 : ¬ (455 : Int) ≤ a1) => Pt.h_done)
 refine Pt.h_fork (fun (f460 : (456 : Int) ≤ a1) => ?_) (fun (f460 : ¬ (456 : Int) ≤ a1) => Pt.h_done)
 refine Pt.h_fork (fun (f461 : (457 : Int) ≤ a1) => ?_) (fun (f461 : ¬ (457 : Int) ≤ a1) => Pt.h_done)
 exact t33 a0 a1 z2 z3 z4 z5 z6 z7 z8 z9 z10 z11 z12 z13 z14 z15 z16 z17 z18 z19 z20 z21 z22 z23 z24 z25 z26 z27 z28 z29 z30 z31 z32 z33 z34 z35 z36 z37 z38 z39 z40 z41 z42 z43 z44 z45 z46 z47 z48 z49 z50 z51 z52 z53 z54 z55 z56 z57 z58 z59 z60 z61 z62 z63 z64 l0 u0 l1 u1 f1 f3 f4 e2 e3 e4 e5 e6 e7 e8 e9 e10 e11 e12 e13 e14 e15 e16 e17 e18 e19 e20 e21 e22 e23 e24 e25 e26 e27 e28 e29 e30 e31 e32 e33 e34 e35 e36 e37 e38 e39 e40 e41 e42 e43 e44 e45 e46 e47 e48 e49 e50 e51 e52 e53 e54 e55 e56 e57 e58 e59 e60 e61 e62 e63 e64 f461

theorem t31 (a0 a1 z2 z3 z4 z5 z6 z7 z8 z9 z10 z11 z12 z13 z14 z15 z16 z17 z18 z19 z20 z21 z22 z23 z24 z25 z26 z27 z28 z29 z30 z31 z32 z33 z34 z35 z36 z37 z38 z39 z40 z41 z42 z43 z44 z45 z46 z47 z48 z49 z50 z51 z52 z53 z54 z55 z56 z57 z58 z59 z60 z61 z62 z63 z64 : Int) (l0 : (-9223372036854775808 : Int) ≤ a0) (u0 : a0 ≤ (9223372036854775807 : Int)) (l1 : (-9223372036854775808 : Int) ≤ a1) (u1 : a1 ≤ (9223372036854775807 : Int)) (f1 : ¬ (549755813888 : Int) < a0) (f3 : ¬ (600 : Int) < a1) (f4 : (0 : Int) < a0) (e2 : z2 = (a0) % 4294967296) (e3 : z3 = z2 / 16777216) (e4 : z4 = z2 / 65536) (e5 : z5 = (z4) % 256) (e6 : z6 = z2 / 256) (e7 : z7 = (z6) % 256) (e8 : z8 = (z2) % 256) (e9 : z9 = ((a0 + (1 : Int))) % 4294967296) (e10 : z10 = z9 / 16777216) (e11 : z11 = z9 / 65536) (e12 : z12 = (z11) % 256) (e13 : z13 = z9 / 256) (e14 : z14 = (z13) % 256) (e15 : z15 = (z9) % 256) (e16 : z16 = ((a0 + (3 : Int))) % 4294967296) (e17 : z17 = z16 / 16777216) (e18 : z18 = z16 / 65536) (e19 : z19 = (z18) % 256) (e20 : z20 = z16 / 256) (e21 : z21 = (z20) % 256) (e22 : z22 = (z16) % 256) (e23 : z23 = ((a0 + (7 : Int))) % 4294967296) (e24 : z24 = z23 / 16777216) (e25 : z25 = z23 / 65536) (e26 : z26 = (z25) % 256) (e27 : z27 = z23 / 256) (e28 : z28 = (z27) % 256) (e29 : z29 = (z23) % 256) (e30 : z30 = ((a0 + (15 : Int))) % 4294967296) (e31 : z31 = z30 / 16777216) (e32 : z32 = z30 / 65536) (e33 : z33 = (z32) % 256) (e34 : z34 = z30 / 256) (e35 : z35 = (z34) % 256) (e36 : z36 = (z30) % 256) (e37 : z37 = ((a0 + (31 : Int))) % 4294967296) (e38 : z38 = z37 / 16777216) (e39 : z39 = z37 / 65536) (e40 : z40 = (z39) % 256) (e41 : z41 = z37 / 256) (e42 : z42 = (z41) % 256) (e43 : z43 = (z37) % 256) (e44 : z44 = ((a0 + (63 : Int))) % 4294967296) (e45 : z45 = z44 / 16777216) (e46 : z46 = z44 / 65536) (e47 : z47 = (z46) % 256) (e48 : z48 = z44 / 256) (e49 : z49 = (z48) % 256) (e50 : z50 = (z44) % 256) (e51 : z51 = ((a0 + (127 : Int))) % 4294967296) (e52 : z52 = z51 / 16777216) (e53 : z53 = z51 / 65536) (e54 : z54 = (z53) % 256) (e55 : z55 = z51 / 256) (e56 : z56 = (z55) % 256) (e57 : z57 = (z51) % 256) (e58 : z58 = ((a0 + (255 : Int))) % 4294967296) (e59 : z59 = z58 / 16777216) (e60 : z60 = z58 / 65536) (e61 : z61 = (z60) % 256) (e62 : z62 = z58 / 256) (e63 : z63 = (z62) % 256) (e64 : z64 = (z58) % 256) (f433 : (429 : Int) ≤ a1) : R166.holds [a0, a1, z2, z3, z4, z5, z6, z7, z8, z9, z10, z11, z12, z13, z14, z15, z16, z17, z18, z19, z20, z21, z22, z23, z24, z25, z26, z27, z28, z29, z30, z31, z32, z33, z34, z35, z36, z37, z38, z39, z40, z41, z42, z43, z44, z45, z46, z47, z48, z49, z50, z51, z52, z53, z54, z55, z56, z57, z58, z59, z60, z61, z62, z63, z64] := by
 refine Pt.h_fork (fun (f434 : (430 : Int) ≤ a1) => ?_) (fun (f434 : ¬ (430 : Int) ≤ a1) => Pt.h_done)
 refine Pt.h_fork (fun (f435 : (431 : Int) ≤ a1) => ?_) (fun (f435 : ¬ (431 : Int) ≤ a1) => Pt.h_done)
 refine Pt.h_fork (fun (f436 : (432 : Int) ≤ a1) => ?_) (fun (f436 : ¬ (432 : Int) ≤ a1) => Pt.h_done)
 refine Pt.h_fork (fun (f437 : (433 : Int) ≤ a1) => ?_) (fun (f437 : ¬ (433 : Int) ≤ a1) => Pt.h_done)
 refine Pt.h_fork (fun (f438 : (434 : Int) ≤ a1) => ?_) (fun (f438 : ¬ (434 : Int) ≤ a1) => Pt.h_done)
 refine Pt.h_fork (fun (f439 : (435 : Int) ≤ a1) => ?_) (fun (f439 : ¬ (435 : Int) ≤ a1) => Pt.h_done)
 refine Pt.h_fork (fun (f440 : (436 : Int) ≤ a1) => ?_) (fun (f440 : ¬ (436 : Int) ≤ a1) => Pt.h_done)
 refine Pt.h_fork (fun (f441 : (437 : Int) ≤ a1) => ?_) (fun (f441 : ¬ (437 : Int) ≤ a1) => Pt.h_done)
 refine Pt.h_fork (fun (f442 : (438 : Int) ≤ a1) => ?_) (fun (f442 : ¬ (438 : Int) ≤ a1) => Pt.h_done)
 refine Pt.h_fork (fun (f443 : (439 : Int) ≤ a1) => ?_) (fun (f443 : ¬ (439 : Int) ≤ a1) => Pt.h_done)
 refine Pt.h_fork (fun (f444 : (440 : Int) ≤ a1) => ?_) (fun (f444 : ¬ (440 : Int) ≤ a1) => Pt.h_done)
 refine Pt.h_fork (fun (f445 : (441 : Int) ≤ a1) => ?_) (fun (f445 : ¬ (441 : Int) ≤ a1) => Pt.h_done)
 refine Pt.h_fork (fun (f446 : (442 : Int) ≤ a1) => ?_) (fun (f446 : ¬ (442 : Int) ≤ a1) => Pt.h_done)
 refine Pt.h_fork (fun (f447 : (443 : Int) ≤ a1) => ?_) (fun (f447 : ¬ (443 : Int) ≤ a1) => Pt.h_done)
 exact t32 a0 a1 z2 z3 z4 z5 z6 z7 z8 z9 z10 z11 z12 z13 z14 z15 z16 z17 z18 z19 z20 z21 z22 z23 z24 z25 z26 z27 z28 z29 z30 z31 z32 z33 z34 z35 z36 z37 z38 z39 z40 z41 z42 z43 z44 z45 z46 z47 z48 z49 z50 z51 z52 z53 z54 z55 z56 z57 z58 z59 z60 z61 z62 z63 z64 l0 u0 l1 u1 f1 f3 f4 e2 e3 e4 e5 e6 e7 e8 e9 e10 e11 e12 e13 e14 e15 e16 e17 e18 e19 e20 e21 e22 e23 e24 e25 e26 e27 e28 e29 e30 e31 e32 e33 e34 e35 e36 e37 e38 e39 e40 e41 e42 e43 e44 e45 e46 e47 e48 e49 e50 e51 e52 e53 e54 e55 e56 e57 e58 e59 e60 e61 e62 e63 e64 f447

theorem t30 (a0 a1 z2 z3 z4 z5 z6 z7 z8 z9 z10 z11 z12 z13 z14 z15 z16 z17 z18 z19 z20 z21 z22 z23 z24 z25 z26 z27 z28 z29 z30 z31 z32 z33 z34 z35 z36 z37 z38 z39 z40 z41 z42 z43 z44 z45 z46 z47 z48 z49 z50 z51 z52 z53 z54 z55 z56 z57 z58 z59 z60 z61 z62 z63 z64 : Int) (l0 : (-9223372036854775808 : Int) ≤ a0) (u0 : a0 ≤ (9223372036854775807 : Int)) (l1 : (-9223372036854775808 : Int) ≤ a1) (u1 : a1 ≤ (9223372036854775807 : Int)) (f1 : ¬ (549755813888 : Int) < a0) (f3 : ¬ (600 : Int) < a1) (f4 : (0 : Int) < a0) (e2 : z2 = (a0) % 4294967296) (e3 : z3 = z2 / 16777216) (e4 : z4 = z2 / 65536) (e5 : z5 = (z4) % 256) (e6 : z6 = z2 / 256) (e7 : z7 = (z6) % 256) (e8 : z8 = (z2) % 256) (e9 : z9 = ((a0 + (1 : Int))) % 4294967296) (e10 : z10 = z9 / 16777216) (e11 : z11 = z9 / 65536) (e12 : z12 = (z11) % 256) (e13 : z13 = z9 / 256) (e14 : z14 = (z13) % 256) (e15 : z15 = (z9) % 256) (e16 : z16 = ((a0 + (3 : Int))) % 4294967296) (e17 : z17 = z16 / 16777216) (e18 : z18 = z16 / 65536) (e19 : z19 = (z18) % 256) (e20 : z20 = z16 / 256) (e21 : z21 = (z20) % 256) (e22 : z22 = (z16) % 256) (e23 : z23 = ((a0 + (7 : Int))) % 4294967296) (e24 : z24 = z23 / 16777216) (e25 : z25 = z23 / 65536) (e26 : z26 = (z25) % 256) (e27 : z27 = z23 / 256) (e28 : z28 = (z27) % 256) (e29 : z29 = (z23) % 256) (e30 : z30 = ((a0 + (15 : Int))) % 4294967296) (e31 : z31 = z30 / 16777216) (e32 : z32 = z30 / 65536) (e33 : z33 = (z32) % 256) (e34 : z34 = z30 / 256) (e35 : z35 = (z34) % 256) (e36 : z36 = (z30) % 256) (e37 : z37 = ((a0 + (31 : Int))) % 4294967296) (e38 : z38 = z37 / 16777216) (e39 : z39 = z37 / 65536) (e40 : z40 = (z39) % 256) (e41 : z41 = z37 / 256) (e42 : z42 = (z41) % 256) (e43 : z43 = (z37) % 256) (e44 : z44 = ((a0 + (63 : Int))) % 4294967296) (e45 : z45 = z44 / 16777216) (e46 : z46 = z44 / 65536) (e47 : z47 = (z46) % 256) (e48 : z48 = z44 / 256) (e49 : z49 = (z48) % 256) (e50 : z50 = (z44) % 256) (e51 : z51 = ((a0 + (127 : Int))) % 4294967296) (e52 : z52 = z51 / 16777216) (e53 : z53 = z51 / 65536) (e54 : z54 = (z53) % 256) (e55 : z55 = z51 / 256) (e56 : z56 = (z55) % 256) (e57 : z57 = (z51) % 256) (e58 : z58 = ((a0 + (255 : Int))) % 4294967296) (e59 : z59 = z58 / 16777216) (e60 : z60 = z58 / 65536) (e61 : z61 = (z60) % 256) (e62 : z62 = z58 / 256) (e63 : z63 = (z62) % 256) (e64 : z64 = (z58) % 256) (f419 : (415 : Int) ≤ a1) : R180.holds [a0, a1, z2, z3, z4, z5, z6, z7, z8, z9, z10, z11, z12, z13, z14, z15, z16, z17, z18, z19, z20, z21, z22, z23, z24, z25, z26, z27, z28, z29, z30, z31, z32, z33, z34, z35, z36, z37, z38, z39, z40, z41, z42, z43, z44, z45, z46, z47, z48, z49, z50, z51, z52, z53, z54, z55, z56, z57, z58, z59, z60, z61, z62, z63, z64] := by
 refine Pt.h_fork (fun (f420 : (416 : Int) ≤ a1) => ?_) (fun (f420 : ¬ (416 : Int) ≤ a1) => Pt.h_done)
 refine Pt.h_fork (fun (f421 : (417 : Int) ≤ a1) => ?_) (fun (f421 : ¬ (417 : Int) ≤ a1) => Pt.h_done)
 refine Pt.h_fork (fun (f422 : (418 : Int) ≤ a1) => ?_) (fun (f422 : ¬ (418 : Int) ≤ a1) => Pt.h_done)
 refine Pt.h_fork (fun (f423 : (419 : Int) ≤ a1) => ?_) (fun (f423 : ¬ (419 : Int) ≤ a1) => Pt.h_done)
 refine Pt.h_fork (fun (f424 : (420 : Int) ≤ a1) => ?_) (fun (f424 : ¬ (420 : Int) ≤ a1) => Pt.h_done)
 refine Pt.h_fork (fun (f425 : (421 : Int) ≤ a1) => ?_) (fun (f425 : ¬ (421 : Int) ≤ a1) => Pt.h_done)
 refine Pt.h_fork (fun (f426 : (422 : Int) ≤ a1) => ?_) (fun (f426 : ¬ (422 : Int) ≤ a1) => Pt.h_done)
 refine Pt.h_fork (fun (f427 : (423 : Int) ≤ a1) => ?_) (fun (f427 : ¬ (423 : Int) ≤ a1) => Pt.h_done)
 refine Pt.h_fork (fun (f428 : (424 : Int) ≤ a1) => ?_) (fun (f428 : ¬ (424 : Int) ≤ a1) => Pt.h_done)
 refine Pt.h_fork (fun (f429 : (425 : Int) ≤ a1) => ?_) (fun (f429 : ¬ (425 : Int) ≤ a1) => Pt.h_done)
 refine Pt.h_fork (fun (f430 : (426 : Int) ≤ a1) => ?_) (fun (f430 : ¬ (426 : Int) ≤ a1) => Pt.h_done)
 refine Pt.h_fork (fun (f431 : (427 : Int) ≤ a1) => ?_) (fun (f431 : ¬ (427 : Int) ≤ a1) => Pt.h_done)
 refine Pt.h_fork (fun (f432 : (428 : Int) ≤ a1) => ?_) (fun (f432 : ¬ (428 : Int) ≤ a1) => Pt.h_done)
 refine Pt.h_fork (fun (f433 : (429 : Int) ≤ a1) => ?_) (fun (f433 : ¬ (429 : Int) ≤ a1) => Pt.h_done)
 exact t31 a0 a1 z2 z3 z4 z5 z6 z7 z8 z9 z10 z11 z12 z13 z14 z15 z16 z17 z18 z19 z20 z21 z22 z23 z24 z25 z26 z27 z28 z29 z30 z31 z32 z33 z34 z35 z36 z37 z38 z39 z40 z41 z42 z43 z44 z45 z46 z47 z48 z49 z50 z51 z52 z53 z54 z55 z56 z57 z58 z59 z60 z61 z62 z63 z64 l0 u0 l1 u1 f1 f3 f4 e2 e3 e4 e5 e6 e7 e8 e9 e10 e11 e12 e13 e14 e15 e16 e17 e18 e19 e20 e21 e22 e23 e24 e25 e26 e27 e28 e29 e30 e31 e32 e33 e34 e35 e36 e37 e38 e39 e40 e41 e42 e43 e44 e45 e46 e47 e48 e49 e50 e51 e52 e53 e54 e55 e56 e57 e58 e59 e60 e61 e62 e63 e64 f433

theorem t29 (a0 a1 z2 z3 z4 z5 z6 z7 z8 z9 z10 z11 z12 z13 z14 z15 z16 z17 z18 z19 z20 z21 z22 z23 z24 z25 z26 z27 z28 z29 z30 z31 z32 z33 z34 z35 z36 z37 z38 z39 z40 z41 z42 z43 z44 z45 z46 z47 z48 z49 z50 z51 z52 z53 z54 z55 z56 z57 z58 z59 z60 z61 z62 z63 z64 : Int) (l0 : (-9223372036854775808 : Int) ≤ a0) (u0 : a0 ≤ (9223372036854775807 : Int)) (l1 : (-9223372036854775808 : Int) ≤ a1) (u1 : a1 ≤ (9223372036854775807 : Int)) (f1 : ¬ (549755813888 : Int) < a0) (f3 : ¬ (600 : Int) < a1) (f4 : (0 : Int) < a0) (e2 : z2 = (a0) % 4294967296) (e3 : z3 = z2 / 16777216) (e4 : z4 = z2 / 65536) (e5 : z5 = (z4) % 256) (e6 : z6 = z2 / 256) (e7 : z7 = (z6) % 256) (e8 : z8 = (z2) % 256) (e9 : z9 = ((a0 + (1 : Int))) % 4294967296) (e10 : z10 = z9 / 16777216) (e11 : z11 = z9 / 65536) (e12 : z12 = (z11) % 256) (e13 : z13 = z9 / 256) (e14 : z14 = (z13) % 256) (e15 : z15 = (z9) % 256) (e16 : z16 = ((a0 + (3 : Int))) % 4294967296) (e17 : z17 = z16 / 16777216) (e18 : z18 = z16 / 65536) (e19 : z19 = (z18) % 256) (e20 : z20 = z16 / 256) (e21 : z21 = (z20) % 256) (e22 : z22 = (z16) % 256) (e23 : z23 = ((a0 + (7 : Int))) % 4294967296) (e24 : z24 = z23 / 16777216) (e25 : z25 = z23 / 65536) (e26 : z26 = (z25) % 256) (e27 : z27 = z23 / 256) (e28 : z28 = (z27) % 256) (e29 : z29 = (z23) % 256) (e30 : z30 = ((a0 + (15 : Int))) % 4294967296) (e31 : z31 = z30 / 16777216) (e32 : z32 = z30 / 65536) (e33 : z33 = (z32) % 256) (e34 : z34 = z30 / 256) (e35 : z35 = (z34) % 256) (e36 : z36 = (z30) % 256) (e37 : z37 = ((a0 + (31 : Int))) % 4294967296) (e38 : z38 = z37 / 16777216) (e39 : z39 = z37 / 65536) (e40 : z40 = (z39) % 256) (e41 : z41 = z37 / 256) (e42 : z42 = (z41) % 256) (e43 : z43 = (z37) % 256) (e44 : z44 = ((a0 + (63 : Int))) % 4294967296) (e45 : z45 = z44 / 16777216) (e46 : z46 = z44 / 65536) (e47 : z47 = (z46) % 256) (e48 : z48 = z44 / 256) (e49 : z49 = (z48) % 256) (e50 : z50 = (z44) % 256) (e51 : z51 = ((a0 + (127 : Int))) % 4294967296) (e52 : z52 = z51 / 16777216) (e53 : z53 = z51 / 65536) (e54 : z54 = (z53) % 256) (e55 : z55 = z51 / 256) (e56 : z56 = (z55) % 256) (e57 : z57 = (z51) % 256) (e58 : z58 = ((a0 + (255 : Int))) % 4294967296) (e59 : z59 = z58 / 16777216) (e60 : z60 = z58 / 65536) (e61 : z61 = (z60) % 256) (e62 : z62 = z58 / 256) (e63 : z63 = (z62) % 256) (e64 : z64 = (z58) % 256) (f405 : (401 : Int) ≤ a1) : R194.holds [a0, a1, z2, z3, z4, z5, z6, z7, z8, z9, z10, z11, z12, z13, z14, z15, z16, z17, z18, z19, z20, z21, z22, z23, z24, z25, z26, z27, z28, z29, z30, z31, z32, z33, z34, z35, z36, z37, z38, z39, z40, z41, z42, z43, z44, z45, z46, z47, z48, z49, z50, z51, z52, z53, z54, z55, z56, z57, z58, z59, z60, z61, z62, z63, z64] := by
 refine Pt.h_fork (fun (f406 : (402 : Int) ≤ a1) => ?_) (fun (f406 : ¬ (402 : Int) ≤ a1) => Pt.h_done)
 refine Pt.h_fork (fun (f407 : (403 : Int) ≤ a1) => ?_) (fun (f407 : ¬ (403 : Int) ≤ a1) => Pt.h_done)
 refine Pt.h_fork (fun (f408 : (404 : Int) ≤ a1) => ?_) (fun (f408 : ¬ (404 : Int) ≤ a1) => Pt.h_done)
 refine Pt.h_fork (fun (f409 : (405 : Int) ≤ a1) => ?_) (fun (f409 : ¬ (405 : Int) ≤ a1) => Pt.h_done)
 refine Pt.h_fork (fun (f410 : (406 : Int) ≤ a1) => ?_) (fun (f410 : ¬ (406 : Int) ≤ a1) => Pt.h_done)
 refine Pt.h_fork (fun (f411 : (407 : Int) ≤ a1) => ?_) (fun (f411 : ¬ (407 : Int) ≤ a1) => Pt.h_done)
 refine Pt.h_fork (fun (f412 : (408 : Int) ≤ a1) => ?_) (fun (f412 : ¬ (408 : Int) ≤ a1) => Pt.h_done)
 refine Pt.h_fork (fun (f413 : (409 : Int) ≤ a1) => ?_) (fun (f413 : ¬ (409 : Int) ≤ a1) => Pt.h_done)
 refine Pt.h_fork (fun (f414 : (410 : Int) ≤ a1) => ?_) (fun (f414 : ¬ (410 : Int) ≤ a1) => Pt.h_done)
 refine Pt.h_fork (fun (f415 : (411 : Int) ≤ a1) => ?_) (fun (f415 : ¬ (411 : Int) ≤ a1) => Pt.h_done)
 refine Pt.h_fork (fun (f416 : (412 : Int) ≤ a1) => ?_) (fun (f416 : ¬ (412 : Int) ≤ a1) => Pt.h_done)
 refine Pt.h_fork (fun (f417 : (413 : Int) ≤ a1) => ?_) (fun (f417 : ¬ (413 : Int) ≤ a1) => Pt.h_done)
 refine Pt.h_fork (fun (f418 : (414 : Int) ≤ a1) => ?_) (fun (f418 : ¬ (414 : Int) ≤ a1) => Pt.h_done)
 refine Pt.h_fork (fun (f419 : (415 : Int) ≤ a1) => ?_) (fun (f419 : ¬ (415 : Int) ≤ a1) => Pt.h_done)
 exact t30 a0 a1 z2 z3 z4 z5 z6 z7 z8 z9 z10 z11 z12 z13 z14 z15 z16 z17 z18 z19 z20 z21 z22 z23 z24 z25 z26 z27 z28 z29 z30 z31 z32 z33 z34 z35 z36 z37 z38 z39 z40 z41 z42 z43 z44 z45 z46 z47 z48 z49 z50 z51 z52 z53 z54 z55 z56 z57 z58 z59 z60 z61 z62 z63 z64 l0 u0 l1 u1 f1 f3 f4 e2 e3 e4 e5 e6 e7 e8 e9 e10 e11 e12 e13 e14 e15 e16 e17 e18 e19 e20 e21 e22 e23 e24 e25 e26 e27 e28 e29 e30 e31 e32 e33 e34 e35 e36 e37 e38 e39 e40 e41 e42 e43 e44 e45 e46 e47 e48 e49 e50 e51 e52 e53 e54 e55 e56 e57 e58 e59 e60 e61 e62 e63 e64 f419

theorem t28 (a0 a1 z2 z3 z4 z5 z6 z7 z8 z9 z10 z11 z12 z13 z14 z15 z16 z17 z18 z19 z20 z21 z22 z23 z24 z25 z26 z27 z28 z29 z30 z31 z32 z33 z34 z35 z36 z37 z38 z39 z40 z41 z42 z43 z44 z45 z46 z47 z48 z49 z50 z51 z52 z53 z54 z55 z56 z57 z58 z59 z60 z61 z62 z63 z64 : Int) (l0 : (-9223372036854775808 : Int) ≤ a0) (u0 : a0 ≤ (9223372036854775807 : Int)) (l1 : (-9223372036854775808 : Int) ≤ a1) (u1 : a1 ≤ (9223372036854775807 : Int)) (f1 : ¬ (549755813888 : Int) < a0) (f3 : ¬ (600 : Int) < a1) (f4 : (0 : Int) < a0) (e2 : z2 = (a0) % 4294967296) (e3 : z3 = z2 / 16777216) (e4 : z4 = z2 / 65536) (e5 : z5 = (z4) % 256) (e6 : z6 = z2 / 256) (e7 : z7 = (z6) % 256) (e8 : z8 = (z2) % 256) (e9 : z9 = ((a0 + (1 : Int))) % 4294967296) (e10 : z10 = z9 / 16777216) (e11 : z11 = z9 / 65536) (e12 : z12 = (z11) % 256) (e13 : z13 = z9 / 256) (e14 : z14 = (z13) % 256) (e15 : z15 = (z9) % 256) (e16 : z16 = ((a0 + (3 : Int))) % 4294967296) (e17 : z17 = z16 / 16777216) (e18 : z18 = z16 / 65536) (e19 : z19 = (z18) % 256) (e20 : z20 = z16 / 256) (e21 : z21 = (z20) % 256) (e22 : z22 = (z16) % 256) (e23 : z23 = ((a0 + (7 : Int))) % 4294967296) (e24 : z24 = z23 / 16777216) (e25 : z25 = z23 / 65536) (e26 : z26 = (z25) % 256) (e27 : z27 = z23 / 256) (e28 : z28 = (z27) % 256) (e29 : z29 = (z23) % 256) (e30 : z30 = ((a0 + (15 : Int))) % 4294967296) (e31 : z31 = z30 / 16777216) (e32 : z32 = z30 / 65536) (e33 : z33 = (z32) % 256) (e34 : z34 = z30 / 256) (e35 : z35 = (z34) % 256) (e36 : z36 = (z30) % 256) (e37 : z37 = ((a0 + (31 : Int))) % 4294967296) (e38 : z38 = z37 / 16777216) (e39 : z39 = z37 / 65536) (e40 : z40 = (z39) % 256) (e41 : z41 = z37 / 256) (e42 : z42 = (z41) % 256) (e43 : z43 = (z37) % 256) (e44 : z44 = ((a0 + (63 : Int))) % 4294967296) (e45 : z45 = z44 / 16777216) (e46 : z46 = z44 / 65536) (e47 : z47 = (z46) % 256) (e48 : z48 = z44 / 256) (e49 : z49 = (z48) % 256) (e50 : z50 = (z44) % 256) (e51 : z51 = ((a0 + (127 : Int))) % 4294967296) (e52 : z52 = z51 / 16777216) (e53 : z53 = z51 / 65536) (e54 : z54 = (z53) % 256) (e55 : z55 = z51 / 256) (e56 : z56 = (z55) % 256) (e57 : z57 = (z51) % 256) (e58 : z58 = ((a0 + (255 : Int))) % 4294967296) (e59 : z59 = z58 / 16777216) (e60 : z60 = z58 / 65536) (e61 : z61 = (z60) % 256) (e62 : z62 = z58 / 256) (e63 : z63 = (z62) % 256) (e64 : z64 = (z58) % 256) (f391 : (387 : Int) ≤ a1) : R208.holds [a0, a1, z2, z3, z4, z5, z6, z7, z8, z9, z10, z11, z12, z13, z14, z15, z16, z17, z18, z19, z20, z21, z22, z23, z24, z25, z26, z27, z28, z29, z30, z31, z32, z33, z34, z35, z36, z37, z38, z39, z40, z41, z42, z43, z44, z45, z46, z47, z48, z49, z50, z51, z52, z53, z54, z55, z56, z57, z58, z59, z60, z61, z62, z63, z64] := by
 refine Pt.h_fork (fun (f392 : (388 : Int) ≤ a1) => ?_) (fun (f392 : ¬ (388 : Int) ≤ a1) => Pt.h_done)
 refine Pt.h_fork (fun (f393 : (389 : Int) ≤ a1) => ?_) (fun (f393 : ¬ (389 : Int) ≤ a1) => Pt.h_done)
 refine Pt.h_fork (fun (f394 : (390 : Int) ≤ a1) => ?_) (fun (f394 : ¬ (390 : Int) ≤ a1) => Pt.h_done)
 refine Pt.h_fork (fun (f395 : (391 : Int) ≤ a1) => ?_) (fun (f395 : ¬ (391 : Int) ≤ a1) => Pt.h_done)
 refine Pt.h_fork (fun (f396 : (392 : Int) ≤ a1) => ?_) (fun (f396 : ¬ (392 : Int) ≤ a1) => Pt.h_done)
 refine Pt.h_fork (fun (f397 : (393 : Int) ≤ a1) => ?_) (fun (f397 : ¬ (393 : Int) ≤ a1) => Pt.h_done)
 refine Pt.h_fork (fun (f398 : (394 : Int) ≤ a1) => ?_) (fun (f398 : ¬ (394 : Int) ≤ a1) => Pt.h_done)
 refine Pt.h_fork (fun (f399 : (395 : Int) ≤ a1) => ?_) (fun (f399 : ¬ (395 : Int) ≤ a1) => Pt.h_done)
 refine Pt.h_fork (fun (f400 : (396 : Int) ≤ a1) => ?_) (fun (f400 : ¬ (396 : Int) ≤ a1) => Pt.h_done)
 refine Pt.h_fork (fun (f401 : (397 : Int) ≤ a1) => ?_) (fun (f401 : ¬ (397 : Int) ≤ a1) => Pt.h_done)
 refine Pt.h_fork (fun (f402 : (398 : Int) ≤ a1) => ?_) (fun (f402 : ¬ (398 : Int) ≤ a1) => Pt.h_done)
 refine Pt.h_fork (fun (f403 : (399 : Int) ≤ a1) => ?_) (fun (f403 : ¬ (399 : Int) ≤ a1) => Pt.h_done)
 refine Pt.h_fork (fun (f404 : (400 : Int) ≤ a1) => ?_) (fun (f404 : ¬ (400 : Int) ≤ a1) => Pt.h_done)
 refine Pt.h_fork (fun (f405 : (401 : Int) ≤ a1) => ?_) (fun (f405 : ¬ (401 : Int) ≤ a1) => Pt.h_done)
 exact t29 a0 a1 z2 z3 z4 z5 z6 z7 z8 z9 z10 z11 z12 z13 z14 z15 z16 z17 z18 z19 z20 z21 z22 z23 z24 z25 z26 z27 z28 z29 z30 z31 z32 z33 z34 z35 z36 z37 z38 z39 z40 z41 z42 z43 z44 z45 z46 z47 z48 z49 z50 z51 z52 z53 z54 z55 z56 z57 z58 z59 z60 z61 z62 z63 z64 l0 u0 l1 u1 f1 f3 f4 e2 e3 e4 e5 e6 e7 e8 e9 e10 e11 e12 e13 e14 e15 e16 e17 e18 e19 e20 e21 e22 e23 e24 e25 e26 e27 e28 e29 e30 e31 e32 e33 e34 e35 e36 e37 e38 e39 e40 e41 e42 e43 e44 e45 e46 e47 e48 e49 e50 e51 e52 e53 e54 e55 e56 e57 e58 e59 e60 e61 e62 e63 e64 f405

end Go.Proofs.Ytfkbofbdonmpfaa.pmpTells
