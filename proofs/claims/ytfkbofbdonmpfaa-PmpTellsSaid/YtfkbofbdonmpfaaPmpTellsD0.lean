/- PmpTells: what its run asks, and that it holds. -/
import Derived.Test.YtfkbofbdonmpfaaM3
import Derived.KernelRfl
set_option linter.unusedSimpArgs false
set_option linter.unusedVariables false
set_option linter.unusedSectionVars false
set_option linter.unnecessarySimpa false
namespace Go.Proofs.Ytfkbofbdonmpfaa.pmpTells
open Go.Am
def fk (a : Int) (j : Nat) (x y : Pt) : Pt := .fork (.le (.c a) (.v j)) x y
def nl (i : Nat) (a : Int) (j : Nat) (b : Int) (t : Pt) : Pt := .no (.le (.a i a) (.a j b)) t
def nc (i : Nat) (a b : Int) (t : Pt) : Pt := .no (.le (.a i a) (.c b)) t
def yt (i : Nat) (b : Int) (t : Pt) : Pt := .yes (.lt (.v i) (.c b)) t
def nt (i : Nat) (b : Int) (t : Pt) : Pt := .no (.lt (.v i) (.c b)) t
def ia (i : Nat) (b : Int) (j : Nat) (c : Int) (t : Pt) : Pt := .is (.ib .add .i64 (.v i) (.c b)) (.a j c) t
def ic (i : Nat) (b c : Int) (t : Pt) : Pt := .is (.ib .add .i64 (.v i) (.c b)) (.c c) t

def T0 : Pt := (ia 0 598 0 598 (fk 599 1 (ia 0 599 0 599 (fk 600 1 (ia 0 600 0 600 (.no (.le (.c 601) (.v 1)) (nt 1 511 .done))) (nt 1 511 .done))) (nt 1 511 .done)))

def T1 : Pt := (ia 0 597 0 597 (fk 598 1 T0 (nt 1 511 .done)))

def T2 : Pt := (ia 0 596 0 596 (fk 597 1 T1 (nt 1 511 .done)))

def T3 : Pt := (ia 0 595 0 595 (fk 596 1 T2 (nt 1 511 .done)))

def T4 : Pt := (ia 0 594 0 594 (fk 595 1 T3 (nt 1 511 .done)))

def T5 : Pt := (ia 0 593 0 593 (fk 594 1 T4 (nt 1 511 .done)))

def T6 : Pt := (ia 0 592 0 592 (fk 593 1 T5 (nt 1 511 .done)))

def T7 : Pt := (ia 0 591 0 591 (fk 592 1 T6 (nt 1 511 .done)))

def T8 : Pt := (ia 0 590 0 590 (fk 591 1 T7 (nt 1 511 .done)))

def T9 : Pt := (ia 0 589 0 589 (fk 590 1 T8 (nt 1 511 .done)))

def T10 : Pt := (ia 0 588 0 588 (fk 589 1 T9 (nt 1 511 .done)))

def T11 : Pt := (ia 0 587 0 587 (fk 588 1 T10 (nt 1 511 .done)))

def T12 : Pt := (ia 0 586 0 586 (fk 587 1 T11 (nt 1 511 .done)))

def T13 : Pt := (ia 0 585 0 585 (fk 586 1 T12 (nt 1 511 .done)))

def T14 : Pt := (ia 0 584 0 584 (fk 585 1 T13 (nt 1 511 .done)))

def T15 : Pt := (ia 0 583 0 583 (fk 584 1 T14 (nt 1 511 .done)))

def T16 : Pt := (ia 0 582 0 582 (fk 583 1 T15 (nt 1 511 .done)))

def T17 : Pt := (ia 0 581 0 581 (fk 582 1 T16 (nt 1 511 .done)))

def T18 : Pt := (ia 0 580 0 580 (fk 581 1 T17 (nt 1 511 .done)))

def T19 : Pt := (ia 0 579 0 579 (fk 580 1 T18 (nt 1 511 .done)))

def T20 : Pt := (ia 0 578 0 578 (fk 579 1 T19 (nt 1 511 .done)))

def T21 : Pt := (ia 0 577 0 577 (fk 578 1 T20 (nt 1 511 .done)))

def T22 : Pt := (ia 0 576 0 576 (fk 577 1 T21 (nt 1 511 .done)))

def T23 : Pt := (ia 0 575 0 575 (fk 576 1 T22 (nt 1 511 .done)))

def T24 : Pt := (ia 0 574 0 574 (fk 575 1 T23 (nt 1 511 .done)))

def T25 : Pt := (ia 0 573 0 573 (fk 574 1 T24 (nt 1 511 .done)))

def T26 : Pt := (ia 0 572 0 572 (fk 573 1 T25 (nt 1 511 .done)))

def T27 : Pt := (ia 0 571 0 571 (fk 572 1 T26 (nt 1 511 .done)))

def T28 : Pt := (ia 0 570 0 570 (fk 571 1 T27 (nt 1 511 .done)))

def T29 : Pt := (ia 0 569 0 569 (fk 570 1 T28 (nt 1 511 .done)))

def T30 : Pt := (ia 0 568 0 568 (fk 569 1 T29 (nt 1 511 .done)))

def T31 : Pt := (ia 0 567 0 567 (fk 568 1 T30 (nt 1 511 .done)))

def T32 : Pt := (ia 0 566 0 566 (fk 567 1 T31 (nt 1 511 .done)))

def T33 : Pt := (ia 0 565 0 565 (fk 566 1 T32 (nt 1 511 .done)))

def T34 : Pt := (ia 0 564 0 564 (fk 565 1 T33 (nt 1 511 .done)))

def T35 : Pt := (ia 0 563 0 563 (fk 564 1 T34 (nt 1 511 .done)))

def T36 : Pt := (ia 0 562 0 562 (fk 563 1 T35 (nt 1 511 .done)))

def T37 : Pt := (ia 0 561 0 561 (fk 562 1 T36 (nt 1 511 .done)))

def T38 : Pt := (ia 0 560 0 560 (fk 561 1 T37 (nt 1 511 .done)))

def T39 : Pt := (ia 0 559 0 559 (fk 560 1 T38 (nt 1 511 .done)))

def T40 : Pt := (ia 0 558 0 558 (fk 559 1 T39 (nt 1 511 .done)))

def T41 : Pt := (ia 0 557 0 557 (fk 558 1 T40 (nt 1 511 .done)))

def T42 : Pt := (ia 0 556 0 556 (fk 557 1 T41 (nt 1 511 .done)))

def T43 : Pt := (ia 0 555 0 555 (fk 556 1 T42 (nt 1 511 .done)))

def T44 : Pt := (ia 0 554 0 554 (fk 555 1 T43 (nt 1 511 .done)))

def T45 : Pt := (ia 0 553 0 553 (fk 554 1 T44 (nt 1 511 .done)))

def T46 : Pt := (ia 0 552 0 552 (fk 553 1 T45 (nt 1 511 .done)))

def T47 : Pt := (ia 0 551 0 551 (fk 552 1 T46 (nt 1 511 .done)))

def T48 : Pt := (ia 0 550 0 550 (fk 551 1 T47 (nt 1 511 .done)))

def T49 : Pt := (ia 0 549 0 549 (fk 550 1 T48 (nt 1 511 .done)))

def T50 : Pt := (ia 0 548 0 548 (fk 549 1 T49 (nt 1 511 .done)))

def T51 : Pt := (ia 0 547 0 547 (fk 548 1 T50 (nt 1 511 .done)))

def T52 : Pt := (ia 0 546 0 546 (fk 547 1 T51 (nt 1 511 .done)))

def T53 : Pt := (ia 0 545 0 545 (fk 546 1 T52 (nt 1 511 .done)))

def T54 : Pt := (ia 0 544 0 544 (fk 545 1 T53 (nt 1 511 .done)))

def T55 : Pt := (ia 0 543 0 543 (fk 544 1 T54 (nt 1 511 .done)))

def T56 : Pt := (ia 0 542 0 542 (fk 543 1 T55 (nt 1 511 .done)))

def T57 : Pt := (ia 0 541 0 541 (fk 542 1 T56 (nt 1 511 .done)))

def T58 : Pt := (ia 0 540 0 540 (fk 541 1 T57 (nt 1 511 .done)))

def T59 : Pt := (ia 0 539 0 539 (fk 540 1 T58 (nt 1 511 .done)))

def T60 : Pt := (ia 0 538 0 538 (fk 539 1 T59 (nt 1 511 .done)))

def T61 : Pt := (ia 0 537 0 537 (fk 538 1 T60 (nt 1 511 .done)))

def T62 : Pt := (ia 0 536 0 536 (fk 537 1 T61 (nt 1 511 .done)))

def T63 : Pt := (ia 0 535 0 535 (fk 536 1 T62 (nt 1 511 .done)))

def T64 : Pt := (ia 0 534 0 534 (fk 535 1 T63 (nt 1 511 .done)))

def T65 : Pt := (ia 0 533 0 533 (fk 534 1 T64 (nt 1 511 .done)))

def T66 : Pt := (ia 0 532 0 532 (fk 533 1 T65 (nt 1 511 .done)))

def T67 : Pt := (ia 0 531 0 531 (fk 532 1 T66 (nt 1 511 .done)))

def T68 : Pt := (ia 0 530 0 530 (fk 531 1 T67 (nt 1 511 .done)))

def T69 : Pt := (ia 0 529 0 529 (fk 530 1 T68 (nt 1 511 .done)))

def T70 : Pt := (ia 0 528 0 528 (fk 529 1 T69 (nt 1 511 .done)))

def T71 : Pt := (ia 0 527 0 527 (fk 528 1 T70 (nt 1 511 .done)))

def T72 : Pt := (ia 0 526 0 526 (fk 527 1 T71 (nt 1 511 .done)))

def T73 : Pt := (ia 0 525 0 525 (fk 526 1 T72 (nt 1 511 .done)))

def T74 : Pt := (ia 0 524 0 524 (fk 525 1 T73 (nt 1 511 .done)))

def T75 : Pt := (ia 0 523 0 523 (fk 524 1 T74 (nt 1 511 .done)))

def T76 : Pt := (ia 0 522 0 522 (fk 523 1 T75 (nt 1 511 .done)))

def T77 : Pt := (ia 0 521 0 521 (fk 522 1 T76 (nt 1 511 .done)))

def T78 : Pt := (ia 0 520 0 520 (fk 521 1 T77 (nt 1 511 .done)))

def T79 : Pt := (ia 0 519 0 519 (fk 520 1 T78 (nt 1 511 .done)))

def T80 : Pt := (ia 0 518 0 518 (fk 519 1 T79 (nt 1 511 .done)))

def T81 : Pt := (ia 0 517 0 517 (fk 518 1 T80 (nt 1 511 .done)))

def T82 : Pt := (ia 0 516 0 516 (fk 517 1 T81 (nt 1 511 .done)))

def T83 : Pt := (ia 0 515 0 515 (fk 516 1 T82 (nt 1 511 .done)))

def T84 : Pt := (ia 0 514 0 514 (fk 515 1 T83 (nt 1 511 .done)))

def T85 : Pt := (ia 0 513 0 513 (fk 514 1 T84 (nt 1 511 .done)))

def T86 : Pt := (ia 0 512 0 512 (fk 513 1 T85 (nt 1 511 .done)))

def T87 : Pt := (ia 0 511 0 511 (.yes (.le (.a 0 (511)) (.a 0 (511))) (.yes (.lt (.c 0) (.a 0 (511))) (.is (.ib .sub .i64 (.a 0 (511)) (.c 0)) (.a 0 (511)) (.new (.wr .u32 (.a 0 (511))) (.new (.sh .shr .u32 (.v 65) (.c 24)) (.is (.wr .u8 (.v 66)) (.v 66) (.new (.sh .shr .u32 (.v 65) (.c 16)) (.new (.wr .u8 (.v 67)) (.new (.sh .shr .u32 (.v 65) (.c 8)) (.new (.wr .u8 (.v 69)) (.is (.wr .u8 (.v 65)) (.v 64) (fk 512 1 T86 (nt 1 511 .done))))))))))))))

def T88 : Pt := (ia 0 510 0 510 (nl 0 511 0 510 (fk 511 1 T87 (yt 1 511 .done))))

def T89 : Pt := (ia 0 509 0 509 (nl 0 511 0 509 (fk 510 1 T88 (yt 1 511 .done))))

def T90 : Pt := (ia 0 508 0 508 (nl 0 511 0 508 (fk 509 1 T89 (yt 1 511 .done))))

def T91 : Pt := (ia 0 507 0 507 (nl 0 511 0 507 (fk 508 1 T90 (yt 1 511 .done))))

def T92 : Pt := (ia 0 506 0 506 (nl 0 511 0 506 (fk 507 1 T91 (yt 1 511 .done))))

def T93 : Pt := (ia 0 505 0 505 (nl 0 511 0 505 (fk 506 1 T92 (yt 1 511 .done))))

def T94 : Pt := (ia 0 504 0 504 (nl 0 511 0 504 (fk 505 1 T93 (yt 1 511 .done))))

def T95 : Pt := (ia 0 503 0 503 (nl 0 511 0 503 (fk 504 1 T94 (yt 1 511 .done))))

def T96 : Pt := (ia 0 502 0 502 (nl 0 511 0 502 (fk 503 1 T95 (yt 1 511 .done))))

def T97 : Pt := (ia 0 501 0 501 (nl 0 511 0 501 (fk 502 1 T96 (yt 1 511 .done))))

def T98 : Pt := (ia 0 500 0 500 (nl 0 511 0 500 (fk 501 1 T97 (yt 1 511 .done))))

def T99 : Pt := (ia 0 499 0 499 (nl 0 511 0 499 (fk 500 1 T98 (yt 1 511 .done))))

def T100 : Pt := (ia 0 498 0 498 (nl 0 511 0 498 (fk 499 1 T99 (yt 1 511 .done))))

def T101 : Pt := (ia 0 497 0 497 (nl 0 511 0 497 (fk 498 1 T100 (yt 1 511 .done))))

def T102 : Pt := (ia 0 496 0 496 (nl 0 511 0 496 (fk 497 1 T101 (yt 1 511 .done))))

def T103 : Pt := (ia 0 495 0 495 (nl 0 511 0 495 (fk 496 1 T102 (yt 1 511 .done))))

def T104 : Pt := (ia 0 494 0 494 (nl 0 511 0 494 (fk 495 1 T103 (yt 1 511 .done))))

def T105 : Pt := (ia 0 493 0 493 (nl 0 511 0 493 (fk 494 1 T104 (yt 1 511 .done))))

def T106 : Pt := (ia 0 492 0 492 (nl 0 511 0 492 (fk 493 1 T105 (yt 1 511 .done))))

def T107 : Pt := (ia 0 491 0 491 (nl 0 511 0 491 (fk 492 1 T106 (yt 1 511 .done))))

def T108 : Pt := (ia 0 490 0 490 (nl 0 511 0 490 (fk 491 1 T107 (yt 1 511 .done))))

def T109 : Pt := (ia 0 489 0 489 (nl 0 511 0 489 (fk 490 1 T108 (yt 1 511 .done))))

def T110 : Pt := (ia 0 488 0 488 (nl 0 511 0 488 (fk 489 1 T109 (yt 1 511 .done))))

def T111 : Pt := (ia 0 487 0 487 (nl 0 511 0 487 (fk 488 1 T110 (yt 1 511 .done))))

def T112 : Pt := (ia 0 486 0 486 (nl 0 511 0 486 (fk 487 1 T111 (yt 1 511 .done))))

def T113 : Pt := (ia 0 485 0 485 (nl 0 511 0 485 (fk 486 1 T112 (yt 1 511 .done))))

def T114 : Pt := (ia 0 484 0 484 (nl 0 511 0 484 (fk 485 1 T113 (yt 1 511 .done))))

def T115 : Pt := (ia 0 483 0 483 (nl 0 511 0 483 (fk 484 1 T114 (yt 1 511 .done))))

def T116 : Pt := (ia 0 482 0 482 (nl 0 511 0 482 (fk 483 1 T115 (yt 1 511 .done))))

def T117 : Pt := (ia 0 481 0 481 (nl 0 511 0 481 (fk 482 1 T116 (yt 1 511 .done))))

def T118 : Pt := (ia 0 480 0 480 (nl 0 511 0 480 (fk 481 1 T117 (yt 1 511 .done))))

def T119 : Pt := (ia 0 479 0 479 (nl 0 511 0 479 (fk 480 1 T118 (yt 1 511 .done))))

def T120 : Pt := (ia 0 478 0 478 (nl 0 511 0 478 (fk 479 1 T119 (yt 1 511 .done))))

def T121 : Pt := (ia 0 477 0 477 (nl 0 511 0 477 (fk 478 1 T120 (yt 1 511 .done))))

def T122 : Pt := (ia 0 476 0 476 (nl 0 511 0 476 (fk 477 1 T121 (yt 1 511 .done))))

def T123 : Pt := (ia 0 475 0 475 (nl 0 511 0 475 (fk 476 1 T122 (yt 1 511 .done))))

def T124 : Pt := (ia 0 474 0 474 (nl 0 511 0 474 (fk 475 1 T123 (yt 1 511 .done))))

def T125 : Pt := (ia 0 473 0 473 (nl 0 511 0 473 (fk 474 1 T124 (yt 1 511 .done))))

def T126 : Pt := (ia 0 472 0 472 (nl 0 511 0 472 (fk 473 1 T125 (yt 1 511 .done))))

def T127 : Pt := (ia 0 471 0 471 (nl 0 511 0 471 (fk 472 1 T126 (yt 1 511 .done))))

def T128 : Pt := (ia 0 470 0 470 (nl 0 511 0 470 (fk 471 1 T127 (yt 1 511 .done))))

def T129 : Pt := (ia 0 469 0 469 (nl 0 511 0 469 (fk 470 1 T128 (yt 1 511 .done))))

def T130 : Pt := (ia 0 468 0 468 (nl 0 511 0 468 (fk 469 1 T129 (yt 1 511 .done))))

def T131 : Pt := (ia 0 467 0 467 (nl 0 511 0 467 (fk 468 1 T130 (yt 1 511 .done))))

def T132 : Pt := (ia 0 466 0 466 (nl 0 511 0 466 (fk 467 1 T131 (yt 1 511 .done))))

def T133 : Pt := (ia 0 465 0 465 (nl 0 511 0 465 (fk 466 1 T132 (yt 1 511 .done))))

def T134 : Pt := (ia 0 464 0 464 (nl 0 511 0 464 (fk 465 1 T133 (yt 1 511 .done))))

def T135 : Pt := (ia 0 463 0 463 (nl 0 511 0 463 (fk 464 1 T134 (yt 1 511 .done))))

def T136 : Pt := (ia 0 462 0 462 (nl 0 511 0 462 (fk 463 1 T135 (yt 1 511 .done))))

def T137 : Pt := (ia 0 461 0 461 (nl 0 511 0 461 (fk 462 1 T136 (yt 1 511 .done))))

def T138 : Pt := (ia 0 460 0 460 (nl 0 511 0 460 (fk 461 1 T137 (yt 1 511 .done))))

def T139 : Pt := (ia 0 459 0 459 (nl 0 511 0 459 (fk 460 1 T138 (yt 1 511 .done))))

def T140 : Pt := (ia 0 458 0 458 (nl 0 511 0 458 (fk 459 1 T139 (yt 1 511 .done))))

def T141 : Pt := (ia 0 457 0 457 (nl 0 511 0 457 (fk 458 1 T140 (yt 1 511 .done))))

def T142 : Pt := (ia 0 456 0 456 (nl 0 511 0 456 (fk 457 1 T141 (yt 1 511 .done))))

def T143 : Pt := (ia 0 455 0 455 (nl 0 511 0 455 (fk 456 1 T142 (yt 1 511 .done))))

def T144 : Pt := (ia 0 454 0 454 (nl 0 511 0 454 (fk 455 1 T143 (yt 1 511 .done))))

def T145 : Pt := (ia 0 453 0 453 (nl 0 511 0 453 (fk 454 1 T144 (yt 1 511 .done))))

def T146 : Pt := (ia 0 452 0 452 (nl 0 511 0 452 (fk 453 1 T145 (yt 1 511 .done))))

def T147 : Pt := (ia 0 451 0 451 (nl 0 511 0 451 (fk 452 1 T146 (yt 1 511 .done))))

def T148 : Pt := (ia 0 450 0 450 (nl 0 511 0 450 (fk 451 1 T147 (yt 1 511 .done))))

def T149 : Pt := (ia 0 449 0 449 (nl 0 511 0 449 (fk 450 1 T148 (yt 1 511 .done))))

def T150 : Pt := (ia 0 448 0 448 (nl 0 511 0 448 (fk 449 1 T149 (yt 1 511 .done))))

def T151 : Pt := (ia 0 447 0 447 (nl 0 511 0 447 (fk 448 1 T150 (yt 1 511 .done))))

def T152 : Pt := (ia 0 446 0 446 (nl 0 511 0 446 (fk 447 1 T151 (yt 1 511 .done))))

def T153 : Pt := (ia 0 445 0 445 (nl 0 511 0 445 (fk 446 1 T152 (yt 1 511 .done))))

def T154 : Pt := (ia 0 444 0 444 (nl 0 511 0 444 (fk 445 1 T153 (yt 1 511 .done))))

def T155 : Pt := (ia 0 443 0 443 (nl 0 511 0 443 (fk 444 1 T154 (yt 1 511 .done))))

def T156 : Pt := (ia 0 442 0 442 (nl 0 511 0 442 (fk 443 1 T155 (yt 1 511 .done))))

def T157 : Pt := (ia 0 441 0 441 (nl 0 511 0 441 (fk 442 1 T156 (yt 1 511 .done))))

def T158 : Pt := (ia 0 440 0 440 (nl 0 511 0 440 (fk 441 1 T157 (yt 1 511 .done))))

def T159 : Pt := (ia 0 439 0 439 (nl 0 511 0 439 (fk 440 1 T158 (yt 1 511 .done))))

def T160 : Pt := (ia 0 438 0 438 (nl 0 511 0 438 (fk 439 1 T159 (yt 1 511 .done))))

def T161 : Pt := (ia 0 437 0 437 (nl 0 511 0 437 (fk 438 1 T160 (yt 1 511 .done))))

def T162 : Pt := (ia 0 436 0 436 (nl 0 511 0 436 (fk 437 1 T161 (yt 1 511 .done))))

def T163 : Pt := (ia 0 435 0 435 (nl 0 511 0 435 (fk 436 1 T162 (yt 1 511 .done))))

def T164 : Pt := (ia 0 434 0 434 (nl 0 511 0 434 (fk 435 1 T163 (yt 1 511 .done))))

def T165 : Pt := (ia 0 433 0 433 (nl 0 511 0 433 (fk 434 1 T164 (yt 1 511 .done))))

def T166 : Pt := (ia 0 432 0 432 (nl 0 511 0 432 (fk 433 1 T165 (yt 1 511 .done))))

def T167 : Pt := (ia 0 431 0 431 (nl 0 511 0 431 (fk 432 1 T166 (yt 1 511 .done))))

def T168 : Pt := (ia 0 430 0 430 (nl 0 511 0 430 (fk 431 1 T167 (yt 1 511 .done))))

def T169 : Pt := (ia 0 429 0 429 (nl 0 511 0 429 (fk 430 1 T168 (yt 1 511 .done))))

def T170 : Pt := (ia 0 428 0 428 (nl 0 511 0 428 (fk 429 1 T169 (yt 1 511 .done))))

def T171 : Pt := (ia 0 427 0 427 (nl 0 511 0 427 (fk 428 1 T170 (yt 1 511 .done))))

def T172 : Pt := (ia 0 426 0 426 (nl 0 511 0 426 (fk 427 1 T171 (yt 1 511 .done))))

def T173 : Pt := (ia 0 425 0 425 (nl 0 511 0 425 (fk 426 1 T172 (yt 1 511 .done))))

def T174 : Pt := (ia 0 424 0 424 (nl 0 511 0 424 (fk 425 1 T173 (yt 1 511 .done))))

def T175 : Pt := (ia 0 423 0 423 (nl 0 511 0 423 (fk 424 1 T174 (yt 1 511 .done))))

def T176 : Pt := (ia 0 422 0 422 (nl 0 511 0 422 (fk 423 1 T175 (yt 1 511 .done))))

def T177 : Pt := (ia 0 421 0 421 (nl 0 511 0 421 (fk 422 1 T176 (yt 1 511 .done))))

def T178 : Pt := (ia 0 420 0 420 (nl 0 511 0 420 (fk 421 1 T177 (yt 1 511 .done))))

def T179 : Pt := (ia 0 419 0 419 (nl 0 511 0 419 (fk 420 1 T178 (yt 1 511 .done))))

def T180 : Pt := (ia 0 418 0 418 (nl 0 511 0 418 (fk 419 1 T179 (yt 1 511 .done))))

def T181 : Pt := (ia 0 417 0 417 (nl 0 511 0 417 (fk 418 1 T180 (yt 1 511 .done))))

def T182 : Pt := (ia 0 416 0 416 (nl 0 511 0 416 (fk 417 1 T181 (yt 1 511 .done))))

def T183 : Pt := (ia 0 415 0 415 (nl 0 511 0 415 (fk 416 1 T182 (yt 1 511 .done))))

def T184 : Pt := (ia 0 414 0 414 (nl 0 511 0 414 (fk 415 1 T183 (yt 1 511 .done))))

def T185 : Pt := (ia 0 413 0 413 (nl 0 511 0 413 (fk 414 1 T184 (yt 1 511 .done))))

def T186 : Pt := (ia 0 412 0 412 (nl 0 511 0 412 (fk 413 1 T185 (yt 1 511 .done))))

def T187 : Pt := (ia 0 411 0 411 (nl 0 511 0 411 (fk 412 1 T186 (yt 1 511 .done))))

def T188 : Pt := (ia 0 410 0 410 (nl 0 511 0 410 (fk 411 1 T187 (yt 1 511 .done))))

def T189 : Pt := (ia 0 409 0 409 (nl 0 511 0 409 (fk 410 1 T188 (yt 1 511 .done))))

def T190 : Pt := (ia 0 408 0 408 (nl 0 511 0 408 (fk 409 1 T189 (yt 1 511 .done))))

def T191 : Pt := (ia 0 407 0 407 (nl 0 511 0 407 (fk 408 1 T190 (yt 1 511 .done))))

def T192 : Pt := (ia 0 406 0 406 (nl 0 511 0 406 (fk 407 1 T191 (yt 1 511 .done))))

def T193 : Pt := (ia 0 405 0 405 (nl 0 511 0 405 (fk 406 1 T192 (yt 1 511 .done))))

def T194 : Pt := (ia 0 404 0 404 (nl 0 511 0 404 (fk 405 1 T193 (yt 1 511 .done))))

def T195 : Pt := (ia 0 403 0 403 (nl 0 511 0 403 (fk 404 1 T194 (yt 1 511 .done))))

def T196 : Pt := (ia 0 402 0 402 (nl 0 511 0 402 (fk 403 1 T195 (yt 1 511 .done))))

def T197 : Pt := (ia 0 401 0 401 (nl 0 511 0 401 (fk 402 1 T196 (yt 1 511 .done))))

def T198 : Pt := (ia 0 400 0 400 (nl 0 511 0 400 (fk 401 1 T197 (yt 1 511 .done))))

def T199 : Pt := (ia 0 399 0 399 (nl 0 511 0 399 (fk 400 1 T198 (yt 1 511 .done))))

def T200 : Pt := (ia 0 398 0 398 (nl 0 511 0 398 (fk 399 1 T199 (yt 1 511 .done))))

def T201 : Pt := (ia 0 397 0 397 (nl 0 511 0 397 (fk 398 1 T200 (yt 1 511 .done))))

def T202 : Pt := (ia 0 396 0 396 (nl 0 511 0 396 (fk 397 1 T201 (yt 1 511 .done))))

def T203 : Pt := (ia 0 395 0 395 (nl 0 511 0 395 (fk 396 1 T202 (yt 1 511 .done))))

def T204 : Pt := (ia 0 394 0 394 (nl 0 511 0 394 (fk 395 1 T203 (yt 1 511 .done))))

def T205 : Pt := (ia 0 393 0 393 (nl 0 511 0 393 (fk 394 1 T204 (yt 1 511 .done))))

def T206 : Pt := (ia 0 392 0 392 (nl 0 511 0 392 (fk 393 1 T205 (yt 1 511 .done))))

def T207 : Pt := (ia 0 391 0 391 (nl 0 511 0 391 (fk 392 1 T206 (yt 1 511 .done))))

def T208 : Pt := (ia 0 390 0 390 (nl 0 511 0 390 (fk 391 1 T207 (yt 1 511 .done))))

def T209 : Pt := (ia 0 389 0 389 (nl 0 511 0 389 (fk 390 1 T208 (yt 1 511 .done))))

def T210 : Pt := (ia 0 388 0 388 (nl 0 511 0 388 (fk 389 1 T209 (yt 1 511 .done))))

def T211 : Pt := (ia 0 387 0 387 (nl 0 511 0 387 (fk 388 1 T210 (yt 1 511 .done))))

def T212 : Pt := (ia 0 386 0 386 (nl 0 511 0 386 (fk 387 1 T211 (yt 1 511 .done))))

def T213 : Pt := (ia 0 385 0 385 (nl 0 511 0 385 (fk 386 1 T212 (yt 1 511 .done))))

def T214 : Pt := (ia 0 384 0 384 (nl 0 511 0 384 (fk 385 1 T213 (yt 1 511 .done))))

def T215 : Pt := (ia 0 383 0 383 (nl 0 511 0 383 (fk 384 1 T214 (yt 1 511 .done))))

def T216 : Pt := (ia 0 382 0 382 (nl 0 511 0 382 (fk 383 1 T215 (yt 1 511 .done))))

def T217 : Pt := (ia 0 381 0 381 (nl 0 511 0 381 (fk 382 1 T216 (yt 1 511 .done))))

def T218 : Pt := (ia 0 380 0 380 (nl 0 511 0 380 (fk 381 1 T217 (yt 1 511 .done))))

def T219 : Pt := (ia 0 379 0 379 (nl 0 511 0 379 (fk 380 1 T218 (yt 1 511 .done))))

def T220 : Pt := (ia 0 378 0 378 (nl 0 511 0 378 (fk 379 1 T219 (yt 1 511 .done))))

def T221 : Pt := (ia 0 377 0 377 (nl 0 511 0 377 (fk 378 1 T220 (yt 1 511 .done))))

def T222 : Pt := (ia 0 376 0 376 (nl 0 511 0 376 (fk 377 1 T221 (yt 1 511 .done))))

def T223 : Pt := (ia 0 375 0 375 (nl 0 511 0 375 (fk 376 1 T222 (yt 1 511 .done))))

def T224 : Pt := (ia 0 374 0 374 (nl 0 511 0 374 (fk 375 1 T223 (yt 1 511 .done))))

def T225 : Pt := (ia 0 373 0 373 (nl 0 511 0 373 (fk 374 1 T224 (yt 1 511 .done))))

def T226 : Pt := (ia 0 372 0 372 (nl 0 511 0 372 (fk 373 1 T225 (yt 1 511 .done))))

def T227 : Pt := (ia 0 371 0 371 (nl 0 511 0 371 (fk 372 1 T226 (yt 1 511 .done))))

def T228 : Pt := (ia 0 370 0 370 (nl 0 511 0 370 (fk 371 1 T227 (yt 1 511 .done))))

def T229 : Pt := (ia 0 369 0 369 (nl 0 511 0 369 (fk 370 1 T228 (yt 1 511 .done))))

def T230 : Pt := (ia 0 368 0 368 (nl 0 511 0 368 (fk 369 1 T229 (yt 1 511 .done))))

def T231 : Pt := (ia 0 367 0 367 (nl 0 511 0 367 (fk 368 1 T230 (yt 1 511 .done))))

def T232 : Pt := (ia 0 366 0 366 (nl 0 511 0 366 (fk 367 1 T231 (yt 1 511 .done))))

def T233 : Pt := (ia 0 365 0 365 (nl 0 511 0 365 (fk 366 1 T232 (yt 1 511 .done))))

def T234 : Pt := (ia 0 364 0 364 (nl 0 511 0 364 (fk 365 1 T233 (yt 1 511 .done))))

def T235 : Pt := (ia 0 363 0 363 (nl 0 511 0 363 (fk 364 1 T234 (yt 1 511 .done))))

def T236 : Pt := (ia 0 362 0 362 (nl 0 511 0 362 (fk 363 1 T235 (yt 1 511 .done))))

def T237 : Pt := (ia 0 361 0 361 (nl 0 511 0 361 (fk 362 1 T236 (yt 1 511 .done))))

def T238 : Pt := (ia 0 360 0 360 (nl 0 511 0 360 (fk 361 1 T237 (yt 1 511 .done))))

def T239 : Pt := (ia 0 359 0 359 (nl 0 511 0 359 (fk 360 1 T238 (yt 1 511 .done))))

def T240 : Pt := (ia 0 358 0 358 (nl 0 511 0 358 (fk 359 1 T239 (yt 1 511 .done))))

def T241 : Pt := (ia 0 357 0 357 (nl 0 511 0 357 (fk 358 1 T240 (yt 1 511 .done))))

def T242 : Pt := (ia 0 356 0 356 (nl 0 511 0 356 (fk 357 1 T241 (yt 1 511 .done))))

def T243 : Pt := (ia 0 355 0 355 (nl 0 511 0 355 (fk 356 1 T242 (yt 1 511 .done))))

def T244 : Pt := (ia 0 354 0 354 (nl 0 511 0 354 (fk 355 1 T243 (yt 1 511 .done))))

def T245 : Pt := (ia 0 353 0 353 (nl 0 511 0 353 (fk 354 1 T244 (yt 1 511 .done))))

def T246 : Pt := (ia 0 352 0 352 (nl 0 511 0 352 (fk 353 1 T245 (yt 1 511 .done))))

def T247 : Pt := (ia 0 351 0 351 (nl 0 511 0 351 (fk 352 1 T246 (yt 1 511 .done))))

def T248 : Pt := (ia 0 350 0 350 (nl 0 511 0 350 (fk 351 1 T247 (yt 1 511 .done))))

def T249 : Pt := (ia 0 349 0 349 (nl 0 511 0 349 (fk 350 1 T248 (yt 1 511 .done))))

def T250 : Pt := (ia 0 348 0 348 (nl 0 511 0 348 (fk 349 1 T249 (yt 1 511 .done))))

def T251 : Pt := (ia 0 347 0 347 (nl 0 511 0 347 (fk 348 1 T250 (yt 1 511 .done))))

def T252 : Pt := (ia 0 346 0 346 (nl 0 511 0 346 (fk 347 1 T251 (yt 1 511 .done))))

def T253 : Pt := (ia 0 345 0 345 (nl 0 511 0 345 (fk 346 1 T252 (yt 1 511 .done))))

def T254 : Pt := (ia 0 344 0 344 (nl 0 511 0 344 (fk 345 1 T253 (yt 1 511 .done))))

def T255 : Pt := (ia 0 343 0 343 (nl 0 511 0 343 (fk 344 1 T254 (yt 1 511 .done))))

def T256 : Pt := (ia 0 342 0 342 (nl 0 511 0 342 (fk 343 1 T255 (yt 1 511 .done))))

def T257 : Pt := (ia 0 341 0 341 (nl 0 511 0 341 (fk 342 1 T256 (yt 1 511 .done))))

def T258 : Pt := (ia 0 340 0 340 (nl 0 511 0 340 (fk 341 1 T257 (yt 1 511 .done))))

def T259 : Pt := (ia 0 339 0 339 (nl 0 511 0 339 (fk 340 1 T258 (yt 1 511 .done))))

def T260 : Pt := (ia 0 338 0 338 (nl 0 511 0 338 (fk 339 1 T259 (yt 1 511 .done))))

def T261 : Pt := (ia 0 337 0 337 (nl 0 511 0 337 (fk 338 1 T260 (yt 1 511 .done))))

def T262 : Pt := (ia 0 336 0 336 (nl 0 511 0 336 (fk 337 1 T261 (yt 1 511 .done))))

def T263 : Pt := (ia 0 335 0 335 (nl 0 511 0 335 (fk 336 1 T262 (yt 1 511 .done))))

def T264 : Pt := (ia 0 334 0 334 (nl 0 511 0 334 (fk 335 1 T263 (yt 1 511 .done))))

def T265 : Pt := (ia 0 333 0 333 (nl 0 511 0 333 (fk 334 1 T264 (yt 1 511 .done))))

def T266 : Pt := (ia 0 332 0 332 (nl 0 511 0 332 (fk 333 1 T265 (yt 1 511 .done))))

def T267 : Pt := (ia 0 331 0 331 (nl 0 511 0 331 (fk 332 1 T266 (yt 1 511 .done))))

def T268 : Pt := (ia 0 330 0 330 (nl 0 511 0 330 (fk 331 1 T267 (yt 1 511 .done))))

def T269 : Pt := (ia 0 329 0 329 (nl 0 511 0 329 (fk 330 1 T268 (yt 1 511 .done))))

def T270 : Pt := (ia 0 328 0 328 (nl 0 511 0 328 (fk 329 1 T269 (yt 1 511 .done))))

def T271 : Pt := (ia 0 327 0 327 (nl 0 511 0 327 (fk 328 1 T270 (yt 1 511 .done))))

def T272 : Pt := (ia 0 326 0 326 (nl 0 511 0 326 (fk 327 1 T271 (yt 1 511 .done))))

def T273 : Pt := (ia 0 325 0 325 (nl 0 511 0 325 (fk 326 1 T272 (yt 1 511 .done))))

def T274 : Pt := (ia 0 324 0 324 (nl 0 511 0 324 (fk 325 1 T273 (yt 1 511 .done))))

def T275 : Pt := (ia 0 323 0 323 (nl 0 511 0 323 (fk 324 1 T274 (yt 1 511 .done))))

def T276 : Pt := (ia 0 322 0 322 (nl 0 511 0 322 (fk 323 1 T275 (yt 1 511 .done))))

def T277 : Pt := (ia 0 321 0 321 (nl 0 511 0 321 (fk 322 1 T276 (yt 1 511 .done))))

def T278 : Pt := (ia 0 320 0 320 (nl 0 511 0 320 (fk 321 1 T277 (yt 1 511 .done))))

def T279 : Pt := (ia 0 319 0 319 (nl 0 511 0 319 (fk 320 1 T278 (yt 1 511 .done))))

def T280 : Pt := (ia 0 318 0 318 (nl 0 511 0 318 (fk 319 1 T279 (yt 1 511 .done))))

def T281 : Pt := (ia 0 317 0 317 (nl 0 511 0 317 (fk 318 1 T280 (yt 1 511 .done))))

def T282 : Pt := (ia 0 316 0 316 (nl 0 511 0 316 (fk 317 1 T281 (yt 1 511 .done))))

def T283 : Pt := (ia 0 315 0 315 (nl 0 511 0 315 (fk 316 1 T282 (yt 1 511 .done))))

def T284 : Pt := (ia 0 314 0 314 (nl 0 511 0 314 (fk 315 1 T283 (yt 1 511 .done))))

def T285 : Pt := (ia 0 313 0 313 (nl 0 511 0 313 (fk 314 1 T284 (yt 1 511 .done))))

def T286 : Pt := (ia 0 312 0 312 (nl 0 511 0 312 (fk 313 1 T285 (yt 1 511 .done))))

def T287 : Pt := (ia 0 311 0 311 (nl 0 511 0 311 (fk 312 1 T286 (yt 1 511 .done))))

def T288 : Pt := (ia 0 310 0 310 (nl 0 511 0 310 (fk 311 1 T287 (yt 1 511 .done))))

def T289 : Pt := (ia 0 309 0 309 (nl 0 511 0 309 (fk 310 1 T288 (yt 1 511 .done))))

def T290 : Pt := (ia 0 308 0 308 (nl 0 511 0 308 (fk 309 1 T289 (yt 1 511 .done))))

def T291 : Pt := (ia 0 307 0 307 (nl 0 511 0 307 (fk 308 1 T290 (yt 1 511 .done))))

def T292 : Pt := (ia 0 306 0 306 (nl 0 511 0 306 (fk 307 1 T291 (yt 1 511 .done))))

def T293 : Pt := (ia 0 305 0 305 (nl 0 511 0 305 (fk 306 1 T292 (yt 1 511 .done))))

def T294 : Pt := (ia 0 304 0 304 (nl 0 511 0 304 (fk 305 1 T293 (yt 1 511 .done))))

def T295 : Pt := (ia 0 303 0 303 (nl 0 511 0 303 (fk 304 1 T294 (yt 1 511 .done))))

def T296 : Pt := (ia 0 302 0 302 (nl 0 511 0 302 (fk 303 1 T295 (yt 1 511 .done))))

def T297 : Pt := (ia 0 301 0 301 (nl 0 511 0 301 (fk 302 1 T296 (yt 1 511 .done))))

def T298 : Pt := (ia 0 300 0 300 (nl 0 511 0 300 (fk 301 1 T297 (yt 1 511 .done))))

def T299 : Pt := (ia 0 299 0 299 (nl 0 511 0 299 (fk 300 1 T298 (yt 1 511 .done))))

def T300 : Pt := (ia 0 298 0 298 (nl 0 511 0 298 (fk 299 1 T299 (yt 1 511 .done))))

def T301 : Pt := (ia 0 297 0 297 (nl 0 511 0 297 (fk 298 1 T300 (yt 1 511 .done))))

def T302 : Pt := (ia 0 296 0 296 (nl 0 511 0 296 (fk 297 1 T301 (yt 1 511 .done))))

def T303 : Pt := (ia 0 295 0 295 (nl 0 511 0 295 (fk 296 1 T302 (yt 1 511 .done))))

def T304 : Pt := (ia 0 294 0 294 (nl 0 511 0 294 (fk 295 1 T303 (yt 1 511 .done))))

def T305 : Pt := (ia 0 293 0 293 (nl 0 511 0 293 (fk 294 1 T304 (yt 1 511 .done))))

def T306 : Pt := (ia 0 292 0 292 (nl 0 511 0 292 (fk 293 1 T305 (yt 1 511 .done))))

def T307 : Pt := (ia 0 291 0 291 (nl 0 511 0 291 (fk 292 1 T306 (yt 1 511 .done))))

def T308 : Pt := (ia 0 290 0 290 (nl 0 511 0 290 (fk 291 1 T307 (yt 1 511 .done))))

def T309 : Pt := (ia 0 289 0 289 (nl 0 511 0 289 (fk 290 1 T308 (yt 1 511 .done))))

def T310 : Pt := (ia 0 288 0 288 (nl 0 511 0 288 (fk 289 1 T309 (yt 1 511 .done))))

def T311 : Pt := (ia 0 287 0 287 (nl 0 511 0 287 (fk 288 1 T310 (yt 1 511 .done))))

def T312 : Pt := (ia 0 286 0 286 (nl 0 511 0 286 (fk 287 1 T311 (yt 1 511 .done))))

def T313 : Pt := (ia 0 285 0 285 (nl 0 511 0 285 (fk 286 1 T312 (yt 1 511 .done))))

def T314 : Pt := (ia 0 284 0 284 (nl 0 511 0 284 (fk 285 1 T313 (yt 1 511 .done))))

def T315 : Pt := (ia 0 283 0 283 (nl 0 511 0 283 (fk 284 1 T314 (yt 1 511 .done))))

def T316 : Pt := (ia 0 282 0 282 (nl 0 511 0 282 (fk 283 1 T315 (yt 1 511 .done))))

def T317 : Pt := (ia 0 281 0 281 (nl 0 511 0 281 (fk 282 1 T316 (yt 1 511 .done))))

def T318 : Pt := (ia 0 280 0 280 (nl 0 511 0 280 (fk 281 1 T317 (yt 1 511 .done))))

def T319 : Pt := (ia 0 279 0 279 (nl 0 511 0 279 (fk 280 1 T318 (yt 1 511 .done))))

def T320 : Pt := (ia 0 278 0 278 (nl 0 511 0 278 (fk 279 1 T319 (yt 1 511 .done))))

def T321 : Pt := (ia 0 277 0 277 (nl 0 511 0 277 (fk 278 1 T320 (yt 1 511 .done))))

def T322 : Pt := (ia 0 276 0 276 (nl 0 511 0 276 (fk 277 1 T321 (yt 1 511 .done))))

def T323 : Pt := (ia 0 275 0 275 (nl 0 511 0 275 (fk 276 1 T322 (yt 1 511 .done))))

def T324 : Pt := (ia 0 274 0 274 (nl 0 511 0 274 (fk 275 1 T323 (yt 1 511 .done))))

def T325 : Pt := (ia 0 273 0 273 (nl 0 511 0 273 (fk 274 1 T324 (yt 1 511 .done))))

def T326 : Pt := (ia 0 272 0 272 (nl 0 511 0 272 (fk 273 1 T325 (yt 1 511 .done))))

def T327 : Pt := (ia 0 271 0 271 (nl 0 511 0 271 (fk 272 1 T326 (yt 1 511 .done))))

def T328 : Pt := (ia 0 270 0 270 (nl 0 511 0 270 (fk 271 1 T327 (yt 1 511 .done))))

def T329 : Pt := (ia 0 269 0 269 (nl 0 511 0 269 (fk 270 1 T328 (yt 1 511 .done))))

def T330 : Pt := (ia 0 268 0 268 (nl 0 511 0 268 (fk 269 1 T329 (yt 1 511 .done))))

def T331 : Pt := (ia 0 267 0 267 (nl 0 511 0 267 (fk 268 1 T330 (yt 1 511 .done))))

def T332 : Pt := (ia 0 266 0 266 (nl 0 511 0 266 (fk 267 1 T331 (yt 1 511 .done))))

def T333 : Pt := (ia 0 265 0 265 (nl 0 511 0 265 (fk 266 1 T332 (yt 1 511 .done))))

def T334 : Pt := (ia 0 264 0 264 (nl 0 511 0 264 (fk 265 1 T333 (yt 1 511 .done))))

def T335 : Pt := (ia 0 263 0 263 (nl 0 511 0 263 (fk 264 1 T334 (yt 1 511 .done))))

def T336 : Pt := (ia 0 262 0 262 (nl 0 511 0 262 (fk 263 1 T335 (yt 1 511 .done))))

def T337 : Pt := (ia 0 261 0 261 (nl 0 511 0 261 (fk 262 1 T336 (yt 1 511 .done))))

def T338 : Pt := (ia 0 260 0 260 (nl 0 511 0 260 (fk 261 1 T337 (yt 1 511 .done))))

def T339 : Pt := (ia 0 259 0 259 (nl 0 511 0 259 (fk 260 1 T338 (yt 1 511 .done))))

def T340 : Pt := (ia 0 258 0 258 (nl 0 511 0 258 (fk 259 1 T339 (yt 1 511 .done))))

def T341 : Pt := (ia 0 257 0 257 (nl 0 511 0 257 (fk 258 1 T340 (yt 1 511 .done))))

def T342 : Pt := (ia 0 256 0 256 (nl 0 511 0 256 (fk 257 1 T341 (yt 1 511 .done))))

def T343 : Pt := (ia 0 255 0 255 (.yes (.le (.a 0 (255)) (.a 0 (255))) (nl 0 511 0 255 (.yes (.lt (.c 0) (.a 0 (255))) (.is (.ib .sub .i64 (.a 0 (255)) (.c 0)) (.a 0 (255)) (.new (.wr .u32 (.a 0 (255))) (.new (.sh .shr .u32 (.v 58) (.c 24)) (.is (.wr .u8 (.v 59)) (.v 59) (.new (.sh .shr .u32 (.v 58) (.c 16)) (.new (.wr .u8 (.v 60)) (.new (.sh .shr .u32 (.v 58) (.c 8)) (.new (.wr .u8 (.v 62)) (.new (.wr .u8 (.v 58)) (fk 256 1 T342 (yt 1 511 .done)))))))))))))))

def T344 : Pt := (ia 0 254 0 254 (nl 0 255 0 254 (nl 0 511 0 254 (fk 255 1 T343 (yt 1 511 .done)))))

def T345 : Pt := (ia 0 253 0 253 (nl 0 255 0 253 (nl 0 511 0 253 (fk 254 1 T344 (yt 1 511 .done)))))

def T346 : Pt := (ia 0 252 0 252 (nl 0 255 0 252 (nl 0 511 0 252 (fk 253 1 T345 (yt 1 511 .done)))))

def T347 : Pt := (ia 0 251 0 251 (nl 0 255 0 251 (nl 0 511 0 251 (fk 252 1 T346 (yt 1 511 .done)))))

def T348 : Pt := (ia 0 250 0 250 (nl 0 255 0 250 (nl 0 511 0 250 (fk 251 1 T347 (yt 1 511 .done)))))

def T349 : Pt := (ia 0 249 0 249 (nl 0 255 0 249 (nl 0 511 0 249 (fk 250 1 T348 (yt 1 511 .done)))))

def T350 : Pt := (ia 0 248 0 248 (nl 0 255 0 248 (nl 0 511 0 248 (fk 249 1 T349 (yt 1 511 .done)))))

def T351 : Pt := (ia 0 247 0 247 (nl 0 255 0 247 (nl 0 511 0 247 (fk 248 1 T350 (yt 1 511 .done)))))

def T352 : Pt := (ia 0 246 0 246 (nl 0 255 0 246 (nl 0 511 0 246 (fk 247 1 T351 (yt 1 511 .done)))))

def T353 : Pt := (ia 0 245 0 245 (nl 0 255 0 245 (nl 0 511 0 245 (fk 246 1 T352 (yt 1 511 .done)))))

def T354 : Pt := (ia 0 244 0 244 (nl 0 255 0 244 (nl 0 511 0 244 (fk 245 1 T353 (yt 1 511 .done)))))

def T355 : Pt := (ia 0 243 0 243 (nl 0 255 0 243 (nl 0 511 0 243 (fk 244 1 T354 (yt 1 511 .done)))))

def T356 : Pt := (ia 0 242 0 242 (nl 0 255 0 242 (nl 0 511 0 242 (fk 243 1 T355 (yt 1 511 .done)))))

def T357 : Pt := (ia 0 241 0 241 (nl 0 255 0 241 (nl 0 511 0 241 (fk 242 1 T356 (yt 1 511 .done)))))

def T358 : Pt := (ia 0 240 0 240 (nl 0 255 0 240 (nl 0 511 0 240 (fk 241 1 T357 (yt 1 511 .done)))))

def T359 : Pt := (ia 0 239 0 239 (nl 0 255 0 239 (nl 0 511 0 239 (fk 240 1 T358 (yt 1 511 .done)))))

def T360 : Pt := (ia 0 238 0 238 (nl 0 255 0 238 (nl 0 511 0 238 (fk 239 1 T359 (yt 1 511 .done)))))

def T361 : Pt := (ia 0 237 0 237 (nl 0 255 0 237 (nl 0 511 0 237 (fk 238 1 T360 (yt 1 511 .done)))))

def T362 : Pt := (ia 0 236 0 236 (nl 0 255 0 236 (nl 0 511 0 236 (fk 237 1 T361 (yt 1 511 .done)))))

def T363 : Pt := (ia 0 235 0 235 (nl 0 255 0 235 (nl 0 511 0 235 (fk 236 1 T362 (yt 1 511 .done)))))

def T364 : Pt := (ia 0 234 0 234 (nl 0 255 0 234 (nl 0 511 0 234 (fk 235 1 T363 (yt 1 511 .done)))))

def T365 : Pt := (ia 0 233 0 233 (nl 0 255 0 233 (nl 0 511 0 233 (fk 234 1 T364 (yt 1 511 .done)))))

def T366 : Pt := (ia 0 232 0 232 (nl 0 255 0 232 (nl 0 511 0 232 (fk 233 1 T365 (yt 1 511 .done)))))

def T367 : Pt := (ia 0 231 0 231 (nl 0 255 0 231 (nl 0 511 0 231 (fk 232 1 T366 (yt 1 511 .done)))))

def T368 : Pt := (ia 0 230 0 230 (nl 0 255 0 230 (nl 0 511 0 230 (fk 231 1 T367 (yt 1 511 .done)))))

def T369 : Pt := (ia 0 229 0 229 (nl 0 255 0 229 (nl 0 511 0 229 (fk 230 1 T368 (yt 1 511 .done)))))

def T370 : Pt := (ia 0 228 0 228 (nl 0 255 0 228 (nl 0 511 0 228 (fk 229 1 T369 (yt 1 511 .done)))))

def T371 : Pt := (ia 0 227 0 227 (nl 0 255 0 227 (nl 0 511 0 227 (fk 228 1 T370 (yt 1 511 .done)))))

def T372 : Pt := (ia 0 226 0 226 (nl 0 255 0 226 (nl 0 511 0 226 (fk 227 1 T371 (yt 1 511 .done)))))

def T373 : Pt := (ia 0 225 0 225 (nl 0 255 0 225 (nl 0 511 0 225 (fk 226 1 T372 (yt 1 511 .done)))))

def T374 : Pt := (ia 0 224 0 224 (nl 0 255 0 224 (nl 0 511 0 224 (fk 225 1 T373 (yt 1 511 .done)))))

def T375 : Pt := (ia 0 223 0 223 (nl 0 255 0 223 (nl 0 511 0 223 (fk 224 1 T374 (yt 1 511 .done)))))

def T376 : Pt := (ia 0 222 0 222 (nl 0 255 0 222 (nl 0 511 0 222 (fk 223 1 T375 (yt 1 511 .done)))))

def T377 : Pt := (ia 0 221 0 221 (nl 0 255 0 221 (nl 0 511 0 221 (fk 222 1 T376 (yt 1 511 .done)))))

def T378 : Pt := (ia 0 220 0 220 (nl 0 255 0 220 (nl 0 511 0 220 (fk 221 1 T377 (yt 1 511 .done)))))

def T379 : Pt := (ia 0 219 0 219 (nl 0 255 0 219 (nl 0 511 0 219 (fk 220 1 T378 (yt 1 511 .done)))))

def T380 : Pt := (ia 0 218 0 218 (nl 0 255 0 218 (nl 0 511 0 218 (fk 219 1 T379 (yt 1 511 .done)))))

def T381 : Pt := (ia 0 217 0 217 (nl 0 255 0 217 (nl 0 511 0 217 (fk 218 1 T380 (yt 1 511 .done)))))

def T382 : Pt := (ia 0 216 0 216 (nl 0 255 0 216 (nl 0 511 0 216 (fk 217 1 T381 (yt 1 511 .done)))))

def T383 : Pt := (ia 0 215 0 215 (nl 0 255 0 215 (nl 0 511 0 215 (fk 216 1 T382 (yt 1 511 .done)))))

def T384 : Pt := (ia 0 214 0 214 (nl 0 255 0 214 (nl 0 511 0 214 (fk 215 1 T383 (yt 1 511 .done)))))

def T385 : Pt := (ia 0 213 0 213 (nl 0 255 0 213 (nl 0 511 0 213 (fk 214 1 T384 (yt 1 511 .done)))))

def T386 : Pt := (ia 0 212 0 212 (nl 0 255 0 212 (nl 0 511 0 212 (fk 213 1 T385 (yt 1 511 .done)))))

def T387 : Pt := (ia 0 211 0 211 (nl 0 255 0 211 (nl 0 511 0 211 (fk 212 1 T386 (yt 1 511 .done)))))

def T388 : Pt := (ia 0 210 0 210 (nl 0 255 0 210 (nl 0 511 0 210 (fk 211 1 T387 (yt 1 511 .done)))))

def T389 : Pt := (ia 0 209 0 209 (nl 0 255 0 209 (nl 0 511 0 209 (fk 210 1 T388 (yt 1 511 .done)))))

def T390 : Pt := (ia 0 208 0 208 (nl 0 255 0 208 (nl 0 511 0 208 (fk 209 1 T389 (yt 1 511 .done)))))

def T391 : Pt := (ia 0 207 0 207 (nl 0 255 0 207 (nl 0 511 0 207 (fk 208 1 T390 (yt 1 511 .done)))))

def T392 : Pt := (ia 0 206 0 206 (nl 0 255 0 206 (nl 0 511 0 206 (fk 207 1 T391 (yt 1 511 .done)))))

def T393 : Pt := (ia 0 205 0 205 (nl 0 255 0 205 (nl 0 511 0 205 (fk 206 1 T392 (yt 1 511 .done)))))

def T394 : Pt := (ia 0 204 0 204 (nl 0 255 0 204 (nl 0 511 0 204 (fk 205 1 T393 (yt 1 511 .done)))))

def T395 : Pt := (ia 0 203 0 203 (nl 0 255 0 203 (nl 0 511 0 203 (fk 204 1 T394 (yt 1 511 .done)))))

def T396 : Pt := (ia 0 202 0 202 (nl 0 255 0 202 (nl 0 511 0 202 (fk 203 1 T395 (yt 1 511 .done)))))

def T397 : Pt := (ia 0 201 0 201 (nl 0 255 0 201 (nl 0 511 0 201 (fk 202 1 T396 (yt 1 511 .done)))))

def T398 : Pt := (ia 0 200 0 200 (nl 0 255 0 200 (nl 0 511 0 200 (fk 201 1 T397 (yt 1 511 .done)))))

def T399 : Pt := (ia 0 199 0 199 (nl 0 255 0 199 (nl 0 511 0 199 (fk 200 1 T398 (yt 1 511 .done)))))

def T400 : Pt := (ia 0 198 0 198 (nl 0 255 0 198 (nl 0 511 0 198 (fk 199 1 T399 (yt 1 511 .done)))))

def T401 : Pt := (ia 0 197 0 197 (nl 0 255 0 197 (nl 0 511 0 197 (fk 198 1 T400 (yt 1 511 .done)))))

def T402 : Pt := (ia 0 196 0 196 (nl 0 255 0 196 (nl 0 511 0 196 (fk 197 1 T401 (yt 1 511 .done)))))

def T403 : Pt := (ia 0 195 0 195 (nl 0 255 0 195 (nl 0 511 0 195 (fk 196 1 T402 (yt 1 511 .done)))))

def T404 : Pt := (ia 0 194 0 194 (nl 0 255 0 194 (nl 0 511 0 194 (fk 195 1 T403 (yt 1 511 .done)))))

def T405 : Pt := (ia 0 193 0 193 (nl 0 255 0 193 (nl 0 511 0 193 (fk 194 1 T404 (yt 1 511 .done)))))

def T406 : Pt := (ia 0 192 0 192 (nl 0 255 0 192 (nl 0 511 0 192 (fk 193 1 T405 (yt 1 511 .done)))))

def T407 : Pt := (ia 0 191 0 191 (nl 0 255 0 191 (nl 0 511 0 191 (fk 192 1 T406 (yt 1 511 .done)))))

def T408 : Pt := (ia 0 190 0 190 (nl 0 255 0 190 (nl 0 511 0 190 (fk 191 1 T407 (yt 1 511 .done)))))

def T409 : Pt := (ia 0 189 0 189 (nl 0 255 0 189 (nl 0 511 0 189 (fk 190 1 T408 (yt 1 511 .done)))))

def T410 : Pt := (ia 0 188 0 188 (nl 0 255 0 188 (nl 0 511 0 188 (fk 189 1 T409 (yt 1 511 .done)))))

def T411 : Pt := (ia 0 187 0 187 (nl 0 255 0 187 (nl 0 511 0 187 (fk 188 1 T410 (yt 1 511 .done)))))

def T412 : Pt := (ia 0 186 0 186 (nl 0 255 0 186 (nl 0 511 0 186 (fk 187 1 T411 (yt 1 511 .done)))))

def T413 : Pt := (ia 0 185 0 185 (nl 0 255 0 185 (nl 0 511 0 185 (fk 186 1 T412 (yt 1 511 .done)))))

def T414 : Pt := (ia 0 184 0 184 (nl 0 255 0 184 (nl 0 511 0 184 (fk 185 1 T413 (yt 1 511 .done)))))

def T415 : Pt := (ia 0 183 0 183 (nl 0 255 0 183 (nl 0 511 0 183 (fk 184 1 T414 (yt 1 511 .done)))))

def T416 : Pt := (ia 0 182 0 182 (nl 0 255 0 182 (nl 0 511 0 182 (fk 183 1 T415 (yt 1 511 .done)))))

def T417 : Pt := (ia 0 181 0 181 (nl 0 255 0 181 (nl 0 511 0 181 (fk 182 1 T416 (yt 1 511 .done)))))

def T418 : Pt := (ia 0 180 0 180 (nl 0 255 0 180 (nl 0 511 0 180 (fk 181 1 T417 (yt 1 511 .done)))))

def T419 : Pt := (ia 0 179 0 179 (nl 0 255 0 179 (nl 0 511 0 179 (fk 180 1 T418 (yt 1 511 .done)))))

def T420 : Pt := (ia 0 178 0 178 (nl 0 255 0 178 (nl 0 511 0 178 (fk 179 1 T419 (yt 1 511 .done)))))

def T421 : Pt := (ia 0 177 0 177 (nl 0 255 0 177 (nl 0 511 0 177 (fk 178 1 T420 (yt 1 511 .done)))))

def T422 : Pt := (ia 0 176 0 176 (nl 0 255 0 176 (nl 0 511 0 176 (fk 177 1 T421 (yt 1 511 .done)))))

def T423 : Pt := (ia 0 175 0 175 (nl 0 255 0 175 (nl 0 511 0 175 (fk 176 1 T422 (yt 1 511 .done)))))

def T424 : Pt := (ia 0 174 0 174 (nl 0 255 0 174 (nl 0 511 0 174 (fk 175 1 T423 (yt 1 511 .done)))))

def T425 : Pt := (ia 0 173 0 173 (nl 0 255 0 173 (nl 0 511 0 173 (fk 174 1 T424 (yt 1 511 .done)))))

def T426 : Pt := (ia 0 172 0 172 (nl 0 255 0 172 (nl 0 511 0 172 (fk 173 1 T425 (yt 1 511 .done)))))

def T427 : Pt := (ia 0 171 0 171 (nl 0 255 0 171 (nl 0 511 0 171 (fk 172 1 T426 (yt 1 511 .done)))))

def T428 : Pt := (ia 0 170 0 170 (nl 0 255 0 170 (nl 0 511 0 170 (fk 171 1 T427 (yt 1 511 .done)))))

def T429 : Pt := (ia 0 169 0 169 (nl 0 255 0 169 (nl 0 511 0 169 (fk 170 1 T428 (yt 1 511 .done)))))

def T430 : Pt := (ia 0 168 0 168 (nl 0 255 0 168 (nl 0 511 0 168 (fk 169 1 T429 (yt 1 511 .done)))))

def T431 : Pt := (ia 0 167 0 167 (nl 0 255 0 167 (nl 0 511 0 167 (fk 168 1 T430 (yt 1 511 .done)))))

def T432 : Pt := (ia 0 166 0 166 (nl 0 255 0 166 (nl 0 511 0 166 (fk 167 1 T431 (yt 1 511 .done)))))

def T433 : Pt := (ia 0 165 0 165 (nl 0 255 0 165 (nl 0 511 0 165 (fk 166 1 T432 (yt 1 511 .done)))))

def T434 : Pt := (ia 0 164 0 164 (nl 0 255 0 164 (nl 0 511 0 164 (fk 165 1 T433 (yt 1 511 .done)))))

def T435 : Pt := (ia 0 163 0 163 (nl 0 255 0 163 (nl 0 511 0 163 (fk 164 1 T434 (yt 1 511 .done)))))

def T436 : Pt := (ia 0 162 0 162 (nl 0 255 0 162 (nl 0 511 0 162 (fk 163 1 T435 (yt 1 511 .done)))))

def T437 : Pt := (ia 0 161 0 161 (nl 0 255 0 161 (nl 0 511 0 161 (fk 162 1 T436 (yt 1 511 .done)))))

def T438 : Pt := (ia 0 160 0 160 (nl 0 255 0 160 (nl 0 511 0 160 (fk 161 1 T437 (yt 1 511 .done)))))

def T439 : Pt := (ia 0 159 0 159 (nl 0 255 0 159 (nl 0 511 0 159 (fk 160 1 T438 (yt 1 511 .done)))))

def T440 : Pt := (ia 0 158 0 158 (nl 0 255 0 158 (nl 0 511 0 158 (fk 159 1 T439 (yt 1 511 .done)))))

def T441 : Pt := (ia 0 157 0 157 (nl 0 255 0 157 (nl 0 511 0 157 (fk 158 1 T440 (yt 1 511 .done)))))

def T442 : Pt := (ia 0 156 0 156 (nl 0 255 0 156 (nl 0 511 0 156 (fk 157 1 T441 (yt 1 511 .done)))))

def T443 : Pt := (ia 0 155 0 155 (nl 0 255 0 155 (nl 0 511 0 155 (fk 156 1 T442 (yt 1 511 .done)))))

def T444 : Pt := (ia 0 154 0 154 (nl 0 255 0 154 (nl 0 511 0 154 (fk 155 1 T443 (yt 1 511 .done)))))

def T445 : Pt := (ia 0 153 0 153 (nl 0 255 0 153 (nl 0 511 0 153 (fk 154 1 T444 (yt 1 511 .done)))))

def T446 : Pt := (ia 0 152 0 152 (nl 0 255 0 152 (nl 0 511 0 152 (fk 153 1 T445 (yt 1 511 .done)))))

def T447 : Pt := (ia 0 151 0 151 (nl 0 255 0 151 (nl 0 511 0 151 (fk 152 1 T446 (yt 1 511 .done)))))

def T448 : Pt := (ia 0 150 0 150 (nl 0 255 0 150 (nl 0 511 0 150 (fk 151 1 T447 (yt 1 511 .done)))))

def T449 : Pt := (ia 0 149 0 149 (nl 0 255 0 149 (nl 0 511 0 149 (fk 150 1 T448 (yt 1 511 .done)))))

def T450 : Pt := (ia 0 148 0 148 (nl 0 255 0 148 (nl 0 511 0 148 (fk 149 1 T449 (yt 1 511 .done)))))

def T451 : Pt := (ia 0 147 0 147 (nl 0 255 0 147 (nl 0 511 0 147 (fk 148 1 T450 (yt 1 511 .done)))))

def T452 : Pt := (ia 0 146 0 146 (nl 0 255 0 146 (nl 0 511 0 146 (fk 147 1 T451 (yt 1 511 .done)))))

def T453 : Pt := (ia 0 145 0 145 (nl 0 255 0 145 (nl 0 511 0 145 (fk 146 1 T452 (yt 1 511 .done)))))

def T454 : Pt := (ia 0 144 0 144 (nl 0 255 0 144 (nl 0 511 0 144 (fk 145 1 T453 (yt 1 511 .done)))))

def T455 : Pt := (ia 0 143 0 143 (nl 0 255 0 143 (nl 0 511 0 143 (fk 144 1 T454 (yt 1 511 .done)))))

def T456 : Pt := (ia 0 142 0 142 (nl 0 255 0 142 (nl 0 511 0 142 (fk 143 1 T455 (yt 1 511 .done)))))

def T457 : Pt := (ia 0 141 0 141 (nl 0 255 0 141 (nl 0 511 0 141 (fk 142 1 T456 (yt 1 511 .done)))))

def T458 : Pt := (ia 0 140 0 140 (nl 0 255 0 140 (nl 0 511 0 140 (fk 141 1 T457 (yt 1 511 .done)))))

def T459 : Pt := (ia 0 139 0 139 (nl 0 255 0 139 (nl 0 511 0 139 (fk 140 1 T458 (yt 1 511 .done)))))

def T460 : Pt := (ia 0 138 0 138 (nl 0 255 0 138 (nl 0 511 0 138 (fk 139 1 T459 (yt 1 511 .done)))))

def T461 : Pt := (ia 0 137 0 137 (nl 0 255 0 137 (nl 0 511 0 137 (fk 138 1 T460 (yt 1 511 .done)))))

def T462 : Pt := (ia 0 136 0 136 (nl 0 255 0 136 (nl 0 511 0 136 (fk 137 1 T461 (yt 1 511 .done)))))

def T463 : Pt := (ia 0 135 0 135 (nl 0 255 0 135 (nl 0 511 0 135 (fk 136 1 T462 (yt 1 511 .done)))))

def T464 : Pt := (ia 0 134 0 134 (nl 0 255 0 134 (nl 0 511 0 134 (fk 135 1 T463 (yt 1 511 .done)))))

def T465 : Pt := (ia 0 133 0 133 (nl 0 255 0 133 (nl 0 511 0 133 (fk 134 1 T464 (yt 1 511 .done)))))

def T466 : Pt := (ia 0 132 0 132 (nl 0 255 0 132 (nl 0 511 0 132 (fk 133 1 T465 (yt 1 511 .done)))))

def T467 : Pt := (ia 0 131 0 131 (nl 0 255 0 131 (nl 0 511 0 131 (fk 132 1 T466 (yt 1 511 .done)))))

def T468 : Pt := (ia 0 130 0 130 (nl 0 255 0 130 (nl 0 511 0 130 (fk 131 1 T467 (yt 1 511 .done)))))

def T469 : Pt := (ia 0 129 0 129 (nl 0 255 0 129 (nl 0 511 0 129 (fk 130 1 T468 (yt 1 511 .done)))))

def T470 : Pt := (ia 0 128 0 128 (nl 0 255 0 128 (nl 0 511 0 128 (fk 129 1 T469 (yt 1 511 .done)))))

def T471 : Pt := (ia 0 127 0 127 (.yes (.le (.a 0 (127)) (.a 0 (127))) (nl 0 255 0 127 (nl 0 511 0 127 (.yes (.lt (.c 0) (.a 0 (127))) (.is (.ib .sub .i64 (.a 0 (127)) (.c 0)) (.a 0 (127)) (.new (.wr .u32 (.a 0 (127))) (.new (.sh .shr .u32 (.v 51) (.c 24)) (.is (.wr .u8 (.v 52)) (.v 52) (.new (.sh .shr .u32 (.v 51) (.c 16)) (.new (.wr .u8 (.v 53)) (.new (.sh .shr .u32 (.v 51) (.c 8)) (.new (.wr .u8 (.v 55)) (.new (.wr .u8 (.v 51)) (fk 128 1 T470 (yt 1 511 .done))))))))))))))))

def T472 : Pt := (ia 0 126 0 126 (nl 0 127 0 126 (nl 0 255 0 126 (nl 0 511 0 126 (fk 127 1 T471 (yt 1 511 .done))))))

def T473 : Pt := (ia 0 125 0 125 (nl 0 127 0 125 (nl 0 255 0 125 (nl 0 511 0 125 (fk 126 1 T472 (yt 1 511 .done))))))

def T474 : Pt := (ia 0 124 0 124 (nl 0 127 0 124 (nl 0 255 0 124 (nl 0 511 0 124 (fk 125 1 T473 (yt 1 511 .done))))))

def T475 : Pt := (ia 0 123 0 123 (nl 0 127 0 123 (nl 0 255 0 123 (nl 0 511 0 123 (fk 124 1 T474 (yt 1 511 .done))))))

def T476 : Pt := (ia 0 122 0 122 (nl 0 127 0 122 (nl 0 255 0 122 (nl 0 511 0 122 (fk 123 1 T475 (yt 1 511 .done))))))

def T477 : Pt := (ia 0 121 0 121 (nl 0 127 0 121 (nl 0 255 0 121 (nl 0 511 0 121 (fk 122 1 T476 (yt 1 511 .done))))))

def T478 : Pt := (ia 0 120 0 120 (nl 0 127 0 120 (nl 0 255 0 120 (nl 0 511 0 120 (fk 121 1 T477 (yt 1 511 .done))))))

def T479 : Pt := (ia 0 119 0 119 (nl 0 127 0 119 (nl 0 255 0 119 (nl 0 511 0 119 (fk 120 1 T478 (yt 1 511 .done))))))

def T480 : Pt := (ia 0 118 0 118 (nl 0 127 0 118 (nl 0 255 0 118 (nl 0 511 0 118 (fk 119 1 T479 (yt 1 511 .done))))))

def T481 : Pt := (ia 0 117 0 117 (nl 0 127 0 117 (nl 0 255 0 117 (nl 0 511 0 117 (fk 118 1 T480 (yt 1 511 .done))))))

def T482 : Pt := (ia 0 116 0 116 (nl 0 127 0 116 (nl 0 255 0 116 (nl 0 511 0 116 (fk 117 1 T481 (yt 1 511 .done))))))

def T483 : Pt := (ia 0 115 0 115 (nl 0 127 0 115 (nl 0 255 0 115 (nl 0 511 0 115 (fk 116 1 T482 (yt 1 511 .done))))))

def T484 : Pt := (ia 0 114 0 114 (nl 0 127 0 114 (nl 0 255 0 114 (nl 0 511 0 114 (fk 115 1 T483 (yt 1 511 .done))))))

def T485 : Pt := (ia 0 113 0 113 (nl 0 127 0 113 (nl 0 255 0 113 (nl 0 511 0 113 (fk 114 1 T484 (yt 1 511 .done))))))

def T486 : Pt := (ia 0 112 0 112 (nl 0 127 0 112 (nl 0 255 0 112 (nl 0 511 0 112 (fk 113 1 T485 (yt 1 511 .done))))))

def T487 : Pt := (ia 0 111 0 111 (nl 0 127 0 111 (nl 0 255 0 111 (nl 0 511 0 111 (fk 112 1 T486 (yt 1 511 .done))))))

def T488 : Pt := (ia 0 110 0 110 (nl 0 127 0 110 (nl 0 255 0 110 (nl 0 511 0 110 (fk 111 1 T487 (yt 1 511 .done))))))

def T489 : Pt := (ia 0 109 0 109 (nl 0 127 0 109 (nl 0 255 0 109 (nl 0 511 0 109 (fk 110 1 T488 (yt 1 511 .done))))))

def T490 : Pt := (ia 0 108 0 108 (nl 0 127 0 108 (nl 0 255 0 108 (nl 0 511 0 108 (fk 109 1 T489 (yt 1 511 .done))))))

def T491 : Pt := (ia 0 107 0 107 (nl 0 127 0 107 (nl 0 255 0 107 (nl 0 511 0 107 (fk 108 1 T490 (yt 1 511 .done))))))

def T492 : Pt := (ia 0 106 0 106 (nl 0 127 0 106 (nl 0 255 0 106 (nl 0 511 0 106 (fk 107 1 T491 (yt 1 511 .done))))))

def T493 : Pt := (ia 0 105 0 105 (nl 0 127 0 105 (nl 0 255 0 105 (nl 0 511 0 105 (fk 106 1 T492 (yt 1 511 .done))))))

def T494 : Pt := (ia 0 104 0 104 (nl 0 127 0 104 (nl 0 255 0 104 (nl 0 511 0 104 (fk 105 1 T493 (yt 1 511 .done))))))

def T495 : Pt := (ia 0 103 0 103 (nl 0 127 0 103 (nl 0 255 0 103 (nl 0 511 0 103 (fk 104 1 T494 (yt 1 511 .done))))))

def T496 : Pt := (ia 0 102 0 102 (nl 0 127 0 102 (nl 0 255 0 102 (nl 0 511 0 102 (fk 103 1 T495 (yt 1 511 .done))))))

def T497 : Pt := (ia 0 101 0 101 (nl 0 127 0 101 (nl 0 255 0 101 (nl 0 511 0 101 (fk 102 1 T496 (yt 1 511 .done))))))

def T498 : Pt := (ia 0 100 0 100 (nl 0 127 0 100 (nl 0 255 0 100 (nl 0 511 0 100 (fk 101 1 T497 (yt 1 511 .done))))))

def T499 : Pt := (ia 0 99 0 99 (nl 0 127 0 99 (nl 0 255 0 99 (nl 0 511 0 99 (fk 100 1 T498 (yt 1 511 .done))))))

def T500 : Pt := (ia 0 98 0 98 (nl 0 127 0 98 (nl 0 255 0 98 (nl 0 511 0 98 (fk 99 1 T499 (yt 1 511 .done))))))

def T501 : Pt := (ia 0 97 0 97 (nl 0 127 0 97 (nl 0 255 0 97 (nl 0 511 0 97 (fk 98 1 T500 (yt 1 511 .done))))))

def T502 : Pt := (ia 0 96 0 96 (nl 0 127 0 96 (nl 0 255 0 96 (nl 0 511 0 96 (fk 97 1 T501 (yt 1 511 .done))))))

def T503 : Pt := (ia 0 95 0 95 (nl 0 127 0 95 (nl 0 255 0 95 (nl 0 511 0 95 (fk 96 1 T502 (yt 1 511 .done))))))

def T504 : Pt := (ia 0 94 0 94 (nl 0 127 0 94 (nl 0 255 0 94 (nl 0 511 0 94 (fk 95 1 T503 (yt 1 511 .done))))))

def T505 : Pt := (ia 0 93 0 93 (nl 0 127 0 93 (nl 0 255 0 93 (nl 0 511 0 93 (fk 94 1 T504 (yt 1 511 .done))))))

def T506 : Pt := (ia 0 92 0 92 (nl 0 127 0 92 (nl 0 255 0 92 (nl 0 511 0 92 (fk 93 1 T505 (yt 1 511 .done))))))

def T507 : Pt := (ia 0 91 0 91 (nl 0 127 0 91 (nl 0 255 0 91 (nl 0 511 0 91 (fk 92 1 T506 (yt 1 511 .done))))))

def T508 : Pt := (ia 0 90 0 90 (nl 0 127 0 90 (nl 0 255 0 90 (nl 0 511 0 90 (fk 91 1 T507 (yt 1 511 .done))))))

def T509 : Pt := (ia 0 89 0 89 (nl 0 127 0 89 (nl 0 255 0 89 (nl 0 511 0 89 (fk 90 1 T508 (yt 1 511 .done))))))

def T510 : Pt := (ia 0 88 0 88 (nl 0 127 0 88 (nl 0 255 0 88 (nl 0 511 0 88 (fk 89 1 T509 (yt 1 511 .done))))))

def T511 : Pt := (ia 0 87 0 87 (nl 0 127 0 87 (nl 0 255 0 87 (nl 0 511 0 87 (fk 88 1 T510 (yt 1 511 .done))))))

def T512 : Pt := (ia 0 86 0 86 (nl 0 127 0 86 (nl 0 255 0 86 (nl 0 511 0 86 (fk 87 1 T511 (yt 1 511 .done))))))

def T513 : Pt := (ia 0 85 0 85 (nl 0 127 0 85 (nl 0 255 0 85 (nl 0 511 0 85 (fk 86 1 T512 (yt 1 511 .done))))))

def T514 : Pt := (ia 0 84 0 84 (nl 0 127 0 84 (nl 0 255 0 84 (nl 0 511 0 84 (fk 85 1 T513 (yt 1 511 .done))))))

def T515 : Pt := (ia 0 83 0 83 (nl 0 127 0 83 (nl 0 255 0 83 (nl 0 511 0 83 (fk 84 1 T514 (yt 1 511 .done))))))

def T516 : Pt := (ia 0 82 0 82 (nl 0 127 0 82 (nl 0 255 0 82 (nl 0 511 0 82 (fk 83 1 T515 (yt 1 511 .done))))))

def T517 : Pt := (ia 0 81 0 81 (nl 0 127 0 81 (nl 0 255 0 81 (nl 0 511 0 81 (fk 82 1 T516 (yt 1 511 .done))))))

def T518 : Pt := (ia 0 80 0 80 (nl 0 127 0 80 (nl 0 255 0 80 (nl 0 511 0 80 (fk 81 1 T517 (yt 1 511 .done))))))

def T519 : Pt := (ia 0 79 0 79 (nl 0 127 0 79 (nl 0 255 0 79 (nl 0 511 0 79 (fk 80 1 T518 (yt 1 511 .done))))))

def T520 : Pt := (ia 0 78 0 78 (nl 0 127 0 78 (nl 0 255 0 78 (nl 0 511 0 78 (fk 79 1 T519 (yt 1 511 .done))))))

def T521 : Pt := (ia 0 77 0 77 (nl 0 127 0 77 (nl 0 255 0 77 (nl 0 511 0 77 (fk 78 1 T520 (yt 1 511 .done))))))

def T522 : Pt := (ia 0 76 0 76 (nl 0 127 0 76 (nl 0 255 0 76 (nl 0 511 0 76 (fk 77 1 T521 (yt 1 511 .done))))))

def T523 : Pt := (ia 0 75 0 75 (nl 0 127 0 75 (nl 0 255 0 75 (nl 0 511 0 75 (fk 76 1 T522 (yt 1 511 .done))))))

def T524 : Pt := (ia 0 74 0 74 (nl 0 127 0 74 (nl 0 255 0 74 (nl 0 511 0 74 (fk 75 1 T523 (yt 1 511 .done))))))

def T525 : Pt := (ia 0 73 0 73 (nl 0 127 0 73 (nl 0 255 0 73 (nl 0 511 0 73 (fk 74 1 T524 (yt 1 511 .done))))))

def T526 : Pt := (ia 0 72 0 72 (nl 0 127 0 72 (nl 0 255 0 72 (nl 0 511 0 72 (fk 73 1 T525 (yt 1 511 .done))))))

def T527 : Pt := (ia 0 71 0 71 (nl 0 127 0 71 (nl 0 255 0 71 (nl 0 511 0 71 (fk 72 1 T526 (yt 1 511 .done))))))

def T528 : Pt := (ia 0 70 0 70 (nl 0 127 0 70 (nl 0 255 0 70 (nl 0 511 0 70 (fk 71 1 T527 (yt 1 511 .done))))))

def T529 : Pt := (ia 0 69 0 69 (nl 0 127 0 69 (nl 0 255 0 69 (nl 0 511 0 69 (fk 70 1 T528 (yt 1 511 .done))))))

def T530 : Pt := (ia 0 68 0 68 (nl 0 127 0 68 (nl 0 255 0 68 (nl 0 511 0 68 (fk 69 1 T529 (yt 1 511 .done))))))

def T531 : Pt := (ia 0 67 0 67 (nl 0 127 0 67 (nl 0 255 0 67 (nl 0 511 0 67 (fk 68 1 T530 (yt 1 511 .done))))))

def T532 : Pt := (ia 0 66 0 66 (nl 0 127 0 66 (nl 0 255 0 66 (nl 0 511 0 66 (fk 67 1 T531 (yt 1 511 .done))))))

def T533 : Pt := (ia 0 65 0 65 (nl 0 127 0 65 (nl 0 255 0 65 (nl 0 511 0 65 (fk 66 1 T532 (yt 1 511 .done))))))

def T534 : Pt := (ia 0 64 0 64 (nl 0 127 0 64 (nl 0 255 0 64 (nl 0 511 0 64 (fk 65 1 T533 (yt 1 511 .done))))))

def T535 : Pt := (ia 0 63 0 63 (.yes (.le (.a 0 (63)) (.a 0 (63))) (nl 0 127 0 63 (nl 0 255 0 63 (nl 0 511 0 63 (.yes (.lt (.c 0) (.a 0 (63))) (.is (.ib .sub .i64 (.a 0 (63)) (.c 0)) (.a 0 (63)) (.new (.wr .u32 (.a 0 (63))) (.new (.sh .shr .u32 (.v 44) (.c 24)) (.is (.wr .u8 (.v 45)) (.v 45) (.new (.sh .shr .u32 (.v 44) (.c 16)) (.new (.wr .u8 (.v 46)) (.new (.sh .shr .u32 (.v 44) (.c 8)) (.new (.wr .u8 (.v 48)) (.new (.wr .u8 (.v 44)) (fk 64 1 T534 (yt 1 511 .done)))))))))))))))))

def T536 : Pt := (ia 0 62 0 62 (nl 0 63 0 62 (nl 0 127 0 62 (nl 0 255 0 62 (nl 0 511 0 62 (fk 63 1 T535 (yt 1 511 .done)))))))

def T537 : Pt := (ia 0 61 0 61 (nl 0 63 0 61 (nl 0 127 0 61 (nl 0 255 0 61 (nl 0 511 0 61 (fk 62 1 T536 (yt 1 511 .done)))))))

def T538 : Pt := (ia 0 60 0 60 (nl 0 63 0 60 (nl 0 127 0 60 (nl 0 255 0 60 (nl 0 511 0 60 (fk 61 1 T537 (yt 1 511 .done)))))))

def T539 : Pt := (ia 0 59 0 59 (nl 0 63 0 59 (nl 0 127 0 59 (nl 0 255 0 59 (nl 0 511 0 59 (fk 60 1 T538 (yt 1 511 .done)))))))

def T540 : Pt := (ia 0 58 0 58 (nl 0 63 0 58 (nl 0 127 0 58 (nl 0 255 0 58 (nl 0 511 0 58 (fk 59 1 T539 (yt 1 511 .done)))))))

def T541 : Pt := (ia 0 57 0 57 (nl 0 63 0 57 (nl 0 127 0 57 (nl 0 255 0 57 (nl 0 511 0 57 (fk 58 1 T540 (yt 1 511 .done)))))))

def T542 : Pt := (ia 0 56 0 56 (nl 0 63 0 56 (nl 0 127 0 56 (nl 0 255 0 56 (nl 0 511 0 56 (fk 57 1 T541 (yt 1 511 .done)))))))

def T543 : Pt := (ia 0 55 0 55 (nl 0 63 0 55 (nl 0 127 0 55 (nl 0 255 0 55 (nl 0 511 0 55 (fk 56 1 T542 (yt 1 511 .done)))))))

def T544 : Pt := (ia 0 54 0 54 (nl 0 63 0 54 (nl 0 127 0 54 (nl 0 255 0 54 (nl 0 511 0 54 (fk 55 1 T543 (yt 1 511 .done)))))))

def T545 : Pt := (ia 0 53 0 53 (nl 0 63 0 53 (nl 0 127 0 53 (nl 0 255 0 53 (nl 0 511 0 53 (fk 54 1 T544 (yt 1 511 .done)))))))

def T546 : Pt := (ia 0 52 0 52 (nl 0 63 0 52 (nl 0 127 0 52 (nl 0 255 0 52 (nl 0 511 0 52 (fk 53 1 T545 (yt 1 511 .done)))))))

def T547 : Pt := (ia 0 51 0 51 (nl 0 63 0 51 (nl 0 127 0 51 (nl 0 255 0 51 (nl 0 511 0 51 (fk 52 1 T546 (yt 1 511 .done)))))))

def T548 : Pt := (ia 0 50 0 50 (nl 0 63 0 50 (nl 0 127 0 50 (nl 0 255 0 50 (nl 0 511 0 50 (fk 51 1 T547 (yt 1 511 .done)))))))

def T549 : Pt := (ia 0 49 0 49 (nl 0 63 0 49 (nl 0 127 0 49 (nl 0 255 0 49 (nl 0 511 0 49 (fk 50 1 T548 (yt 1 511 .done)))))))

def T550 : Pt := (ia 0 48 0 48 (nl 0 63 0 48 (nl 0 127 0 48 (nl 0 255 0 48 (nl 0 511 0 48 (fk 49 1 T549 (yt 1 511 .done)))))))

def T551 : Pt := (ia 0 47 0 47 (nl 0 63 0 47 (nl 0 127 0 47 (nl 0 255 0 47 (nl 0 511 0 47 (fk 48 1 T550 (yt 1 511 .done)))))))

def T552 : Pt := (ia 0 46 0 46 (nl 0 63 0 46 (nl 0 127 0 46 (nl 0 255 0 46 (nl 0 511 0 46 (fk 47 1 T551 (yt 1 511 .done)))))))

def T553 : Pt := (ia 0 45 0 45 (nl 0 63 0 45 (nl 0 127 0 45 (nl 0 255 0 45 (nl 0 511 0 45 (fk 46 1 T552 (yt 1 511 .done)))))))

def T554 : Pt := (ia 0 44 0 44 (nl 0 63 0 44 (nl 0 127 0 44 (nl 0 255 0 44 (nl 0 511 0 44 (fk 45 1 T553 (yt 1 511 .done)))))))

def T555 : Pt := (ia 0 43 0 43 (nl 0 63 0 43 (nl 0 127 0 43 (nl 0 255 0 43 (nl 0 511 0 43 (fk 44 1 T554 (yt 1 511 .done)))))))

def T556 : Pt := (ia 0 42 0 42 (nl 0 63 0 42 (nl 0 127 0 42 (nl 0 255 0 42 (nl 0 511 0 42 (fk 43 1 T555 (yt 1 511 .done)))))))

def T557 : Pt := (ia 0 41 0 41 (nl 0 63 0 41 (nl 0 127 0 41 (nl 0 255 0 41 (nl 0 511 0 41 (fk 42 1 T556 (yt 1 511 .done)))))))

def T558 : Pt := (ia 0 40 0 40 (nl 0 63 0 40 (nl 0 127 0 40 (nl 0 255 0 40 (nl 0 511 0 40 (fk 41 1 T557 (yt 1 511 .done)))))))

def T559 : Pt := (ia 0 39 0 39 (nl 0 63 0 39 (nl 0 127 0 39 (nl 0 255 0 39 (nl 0 511 0 39 (fk 40 1 T558 (yt 1 511 .done)))))))

def T560 : Pt := (ia 0 38 0 38 (nl 0 63 0 38 (nl 0 127 0 38 (nl 0 255 0 38 (nl 0 511 0 38 (fk 39 1 T559 (yt 1 511 .done)))))))

def T561 : Pt := (ia 0 37 0 37 (nl 0 63 0 37 (nl 0 127 0 37 (nl 0 255 0 37 (nl 0 511 0 37 (fk 38 1 T560 (yt 1 511 .done)))))))

def T562 : Pt := (ia 0 36 0 36 (nl 0 63 0 36 (nl 0 127 0 36 (nl 0 255 0 36 (nl 0 511 0 36 (fk 37 1 T561 (yt 1 511 .done)))))))

def T563 : Pt := (ia 0 35 0 35 (nl 0 63 0 35 (nl 0 127 0 35 (nl 0 255 0 35 (nl 0 511 0 35 (fk 36 1 T562 (yt 1 511 .done)))))))

def T564 : Pt := (ia 0 34 0 34 (nl 0 63 0 34 (nl 0 127 0 34 (nl 0 255 0 34 (nl 0 511 0 34 (fk 35 1 T563 (yt 1 511 .done)))))))

def T565 : Pt := (ia 0 33 0 33 (nl 0 63 0 33 (nl 0 127 0 33 (nl 0 255 0 33 (nl 0 511 0 33 (fk 34 1 T564 (yt 1 511 .done)))))))

def T566 : Pt := (ia 0 32 0 32 (nl 0 63 0 32 (nl 0 127 0 32 (nl 0 255 0 32 (nl 0 511 0 32 (fk 33 1 T565 (yt 1 511 .done)))))))

def T567 : Pt := (ia 0 31 0 31 (.yes (.le (.a 0 (31)) (.a 0 (31))) (nl 0 63 0 31 (nl 0 127 0 31 (nl 0 255 0 31 (nl 0 511 0 31 (.yes (.lt (.c 0) (.a 0 (31))) (.is (.ib .sub .i64 (.a 0 (31)) (.c 0)) (.a 0 (31)) (.new (.wr .u32 (.a 0 (31))) (.new (.sh .shr .u32 (.v 37) (.c 24)) (.is (.wr .u8 (.v 38)) (.v 38) (.new (.sh .shr .u32 (.v 37) (.c 16)) (.new (.wr .u8 (.v 39)) (.new (.sh .shr .u32 (.v 37) (.c 8)) (.new (.wr .u8 (.v 41)) (.new (.wr .u8 (.v 37)) (fk 32 1 T566 (yt 1 511 .done))))))))))))))))))

def T568 : Pt := (ia 0 30 0 30 (nl 0 31 0 30 (nl 0 63 0 30 (nl 0 127 0 30 (nl 0 255 0 30 (nl 0 511 0 30 (fk 31 1 T567 (yt 1 511 .done))))))))

def T569 : Pt := (ia 0 29 0 29 (nl 0 31 0 29 (nl 0 63 0 29 (nl 0 127 0 29 (nl 0 255 0 29 (nl 0 511 0 29 (fk 30 1 T568 (yt 1 511 .done))))))))

def T570 : Pt := (ia 0 28 0 28 (nl 0 31 0 28 (nl 0 63 0 28 (nl 0 127 0 28 (nl 0 255 0 28 (nl 0 511 0 28 (fk 29 1 T569 (yt 1 511 .done))))))))

def T571 : Pt := (ia 0 27 0 27 (nl 0 31 0 27 (nl 0 63 0 27 (nl 0 127 0 27 (nl 0 255 0 27 (nl 0 511 0 27 (fk 28 1 T570 (yt 1 511 .done))))))))

def T572 : Pt := (ia 0 26 0 26 (nl 0 31 0 26 (nl 0 63 0 26 (nl 0 127 0 26 (nl 0 255 0 26 (nl 0 511 0 26 (fk 27 1 T571 (yt 1 511 .done))))))))

def T573 : Pt := (ia 0 25 0 25 (nl 0 31 0 25 (nl 0 63 0 25 (nl 0 127 0 25 (nl 0 255 0 25 (nl 0 511 0 25 (fk 26 1 T572 (yt 1 511 .done))))))))

def T574 : Pt := (ia 0 24 0 24 (nl 0 31 0 24 (nl 0 63 0 24 (nl 0 127 0 24 (nl 0 255 0 24 (nl 0 511 0 24 (fk 25 1 T573 (yt 1 511 .done))))))))

def T575 : Pt := (ia 0 23 0 23 (nl 0 31 0 23 (nl 0 63 0 23 (nl 0 127 0 23 (nl 0 255 0 23 (nl 0 511 0 23 (fk 24 1 T574 (yt 1 511 .done))))))))

def T576 : Pt := (ia 0 22 0 22 (nl 0 31 0 22 (nl 0 63 0 22 (nl 0 127 0 22 (nl 0 255 0 22 (nl 0 511 0 22 (fk 23 1 T575 (yt 1 511 .done))))))))

def T577 : Pt := (ia 0 21 0 21 (nl 0 31 0 21 (nl 0 63 0 21 (nl 0 127 0 21 (nl 0 255 0 21 (nl 0 511 0 21 (fk 22 1 T576 (yt 1 511 .done))))))))

def T578 : Pt := (ia 0 20 0 20 (nl 0 31 0 20 (nl 0 63 0 20 (nl 0 127 0 20 (nl 0 255 0 20 (nl 0 511 0 20 (fk 21 1 T577 (yt 1 511 .done))))))))

def T579 : Pt := (ia 0 19 0 19 (nl 0 31 0 19 (nl 0 63 0 19 (nl 0 127 0 19 (nl 0 255 0 19 (nl 0 511 0 19 (fk 20 1 T578 (yt 1 511 .done))))))))

def T580 : Pt := (ia 0 18 0 18 (nl 0 31 0 18 (nl 0 63 0 18 (nl 0 127 0 18 (nl 0 255 0 18 (nl 0 511 0 18 (fk 19 1 T579 (yt 1 511 .done))))))))

def T581 : Pt := (ia 0 17 0 17 (nl 0 31 0 17 (nl 0 63 0 17 (nl 0 127 0 17 (nl 0 255 0 17 (nl 0 511 0 17 (fk 18 1 T580 (yt 1 511 .done))))))))

def T582 : Pt := (ia 0 16 0 16 (nl 0 31 0 16 (nl 0 63 0 16 (nl 0 127 0 16 (nl 0 255 0 16 (nl 0 511 0 16 (fk 17 1 T581 (yt 1 511 .done))))))))

def T583 : Pt := (ia 0 15 0 15 (.yes (.le (.a 0 (15)) (.a 0 (15))) (nl 0 31 0 15 (nl 0 63 0 15 (nl 0 127 0 15 (nl 0 255 0 15 (nl 0 511 0 15 (.yes (.lt (.c 0) (.a 0 (15))) (.is (.ib .sub .i64 (.a 0 (15)) (.c 0)) (.a 0 (15)) (.new (.wr .u32 (.a 0 (15))) (.new (.sh .shr .u32 (.v 30) (.c 24)) (.is (.wr .u8 (.v 31)) (.v 31) (.new (.sh .shr .u32 (.v 30) (.c 16)) (.new (.wr .u8 (.v 32)) (.new (.sh .shr .u32 (.v 30) (.c 8)) (.new (.wr .u8 (.v 34)) (.new (.wr .u8 (.v 30)) (fk 16 1 T582 (yt 1 511 .done)))))))))))))))))))

def T584 : Pt := (ia 0 14 0 14 (nl 0 15 0 14 (nl 0 31 0 14 (nl 0 63 0 14 (nl 0 127 0 14 (nl 0 255 0 14 (nl 0 511 0 14 (fk 15 1 T583 (yt 1 511 .done)))))))))

def T585 : Pt := (ia 0 13 0 13 (nl 0 15 0 13 (nl 0 31 0 13 (nl 0 63 0 13 (nl 0 127 0 13 (nl 0 255 0 13 (nl 0 511 0 13 (fk 14 1 T584 (yt 1 511 .done)))))))))

def T586 : Pt := (ia 0 12 0 12 (nl 0 15 0 12 (nl 0 31 0 12 (nl 0 63 0 12 (nl 0 127 0 12 (nl 0 255 0 12 (nl 0 511 0 12 (fk 13 1 T585 (yt 1 511 .done)))))))))

def T587 : Pt := (ia 0 11 0 11 (nl 0 15 0 11 (nl 0 31 0 11 (nl 0 63 0 11 (nl 0 127 0 11 (nl 0 255 0 11 (nl 0 511 0 11 (fk 12 1 T586 (yt 1 511 .done)))))))))

def T588 : Pt := (ia 0 10 0 10 (nl 0 15 0 10 (nl 0 31 0 10 (nl 0 63 0 10 (nl 0 127 0 10 (nl 0 255 0 10 (nl 0 511 0 10 (fk 11 1 T587 (yt 1 511 .done)))))))))

def T589 : Pt := (ia 0 9 0 9 (nl 0 15 0 9 (nl 0 31 0 9 (nl 0 63 0 9 (nl 0 127 0 9 (nl 0 255 0 9 (nl 0 511 0 9 (fk 10 1 T588 (yt 1 511 .done)))))))))

def T590 : Pt := (ia 0 8 0 8 (nl 0 15 0 8 (nl 0 31 0 8 (nl 0 63 0 8 (nl 0 127 0 8 (nl 0 255 0 8 (nl 0 511 0 8 (fk 9 1 T589 (yt 1 511 .done)))))))))

def T591 : Pt := (ia 0 7 0 7 (.yes (.le (.a 0 (7)) (.a 0 (7))) (nl 0 15 0 7 (nl 0 31 0 7 (nl 0 63 0 7 (nl 0 127 0 7 (nl 0 255 0 7 (nl 0 511 0 7 (.yes (.lt (.c 0) (.a 0 (7))) (.is (.ib .sub .i64 (.a 0 (7)) (.c 0)) (.a 0 (7)) (.new (.wr .u32 (.a 0 (7))) (.new (.sh .shr .u32 (.v 23) (.c 24)) (.is (.wr .u8 (.v 24)) (.v 24) (.new (.sh .shr .u32 (.v 23) (.c 16)) (.new (.wr .u8 (.v 25)) (.new (.sh .shr .u32 (.v 23) (.c 8)) (.new (.wr .u8 (.v 27)) (.new (.wr .u8 (.v 23)) (fk 8 1 T590 (yt 1 511 .done))))))))))))))))))))

def T592 : Pt := (ia 0 6 0 6 (nl 0 7 0 6 (nl 0 15 0 6 (nl 0 31 0 6 (nl 0 63 0 6 (nl 0 127 0 6 (nl 0 255 0 6 (nl 0 511 0 6 (fk 7 1 T591 (yt 1 511 .done))))))))))

def T593 : Pt := (ia 0 5 0 5 (nl 0 7 0 5 (nl 0 15 0 5 (nl 0 31 0 5 (nl 0 63 0 5 (nl 0 127 0 5 (nl 0 255 0 5 (nl 0 511 0 5 (fk 6 1 T592 (yt 1 511 .done))))))))))

def T594 : Pt := (ia 0 4 0 4 (nl 0 7 0 4 (nl 0 15 0 4 (nl 0 31 0 4 (nl 0 63 0 4 (nl 0 127 0 4 (nl 0 255 0 4 (nl 0 511 0 4 (fk 5 1 T593 (yt 1 511 .done))))))))))

def T595 : Pt := (.yes (.le (.a 0 (3)) (.a 0 (3))) (nl 0 7 0 3 (nl 0 15 0 3 (nl 0 31 0 3 (nl 0 63 0 3 (nl 0 127 0 3 (nl 0 255 0 3 (nl 0 511 0 3 (.yes (.lt (.c 0) (.a 0 (3))) (.is (.ib .sub .i64 (.a 0 (3)) (.c 0)) (.a 0 (3)) (.new (.wr .u32 (.a 0 (3))) (.new (.sh .shr .u32 (.v 16) (.c 24)) (.is (.wr .u8 (.v 17)) (.v 17) (.new (.sh .shr .u32 (.v 16) (.c 16)) (.new (.wr .u8 (.v 18)) (.new (.sh .shr .u32 (.v 16) (.c 8)) (.new (.wr .u8 (.v 20)) (.new (.wr .u8 (.v 16)) (fk 4 1 T594 (yt 1 511 .done))))))))))))))))))))

def T596 : Pt := (ia 0 2 0 2 (nl 0 3 0 2 (nl 0 7 0 2 (nl 0 15 0 2 (nl 0 31 0 2 (nl 0 63 0 2 (nl 0 127 0 2 (nl 0 255 0 2 (nl 0 511 0 2 (fk 3 1 T595 (yt 1 511 .done)))))))))))

def T597 : Pt := (.yes (.le (.a 0 (1)) (.a 0 (1))) (nl 0 3 0 1 (nl 0 7 0 1 (nl 0 15 0 1 (nl 0 31 0 1 (nl 0 63 0 1 (nl 0 127 0 1 (nl 0 255 0 1 (nl 0 511 0 1 (.yes (.lt (.c 0) (.a 0 (1))) (.is (.ib .sub .i64 (.a 0 (1)) (.c 0)) (.a 0 (1)) (.new (.wr .u32 (.a 0 (1))) (.new (.sh .shr .u32 (.v 9) (.c 24)) (.is (.wr .u8 (.v 10)) (.v 10) (.new (.sh .shr .u32 (.v 9) (.c 16)) (.new (.wr .u8 (.v 11)) (.new (.sh .shr .u32 (.v 9) (.c 8)) (.new (.wr .u8 (.v 13)) (.new (.wr .u8 (.v 9)) (fk 2 1 T596 (yt 1 511 .done)))))))))))))))))))))

def T598 : Pt := (.is (.ib .sub .i64 (.v 0) (.c 0)) (.v 0) (.new (.wr .u32 (.v 0)) (.new (.sh .shr .u32 (.v 2) (.c 24)) (.is (.wr .u8 (.v 3)) (.v 3) (.new (.sh .shr .u32 (.v 2) (.c 16)) (.new (.wr .u8 (.v 4)) (.new (.sh .shr .u32 (.v 2) (.c 8)) (.new (.wr .u8 (.v 6)) (.new (.wr .u8 (.v 2)) (fk 1 1 T597 (yt 1 511 .done)))))))))))

def T599 : Pt := (ic 0 598 598 (fk 599 1 (.new (.ib .add .i64 (.v 0) (.c 599)) (fk 600 1 (.new (.ib .add .i64 (.v 0) (.c 600)) (.no (.le (.c 601) (.v 1)) (nt 1 511 .done))) (nt 1 511 .done))) (nt 1 511 .done)))

def T600 : Pt := (ic 0 597 597 (fk 598 1 T599 (nt 1 511 .done)))

def T601 : Pt := (ic 0 596 596 (fk 597 1 T600 (nt 1 511 .done)))

def T602 : Pt := (ic 0 595 595 (fk 596 1 T601 (nt 1 511 .done)))

def T603 : Pt := (ic 0 594 594 (fk 595 1 T602 (nt 1 511 .done)))

def T604 : Pt := (ic 0 593 593 (fk 594 1 T603 (nt 1 511 .done)))

def T605 : Pt := (ic 0 592 592 (fk 593 1 T604 (nt 1 511 .done)))

def T606 : Pt := (ic 0 591 591 (fk 592 1 T605 (nt 1 511 .done)))

def T607 : Pt := (ic 0 590 590 (fk 591 1 T606 (nt 1 511 .done)))

def T608 : Pt := (ic 0 589 589 (fk 590 1 T607 (nt 1 511 .done)))

def T609 : Pt := (ic 0 588 588 (fk 589 1 T608 (nt 1 511 .done)))

def T610 : Pt := (ic 0 587 587 (fk 588 1 T609 (nt 1 511 .done)))

def T611 : Pt := (ic 0 586 586 (fk 587 1 T610 (nt 1 511 .done)))

def T612 : Pt := (ic 0 585 585 (fk 586 1 T611 (nt 1 511 .done)))

def T613 : Pt := (ic 0 584 584 (fk 585 1 T612 (nt 1 511 .done)))

def T614 : Pt := (ic 0 583 583 (fk 584 1 T613 (nt 1 511 .done)))

def T615 : Pt := (ic 0 582 582 (fk 583 1 T614 (nt 1 511 .done)))

def T616 : Pt := (ic 0 581 581 (fk 582 1 T615 (nt 1 511 .done)))

def T617 : Pt := (ic 0 580 580 (fk 581 1 T616 (nt 1 511 .done)))

def T618 : Pt := (ic 0 579 579 (fk 580 1 T617 (nt 1 511 .done)))

def T619 : Pt := (ic 0 578 578 (fk 579 1 T618 (nt 1 511 .done)))

def T620 : Pt := (ic 0 577 577 (fk 578 1 T619 (nt 1 511 .done)))

def T621 : Pt := (ic 0 576 576 (fk 577 1 T620 (nt 1 511 .done)))

def T622 : Pt := (ic 0 575 575 (fk 576 1 T621 (nt 1 511 .done)))

def T623 : Pt := (ic 0 574 574 (fk 575 1 T622 (nt 1 511 .done)))

def T624 : Pt := (ic 0 573 573 (fk 574 1 T623 (nt 1 511 .done)))

def T625 : Pt := (ic 0 572 572 (fk 573 1 T624 (nt 1 511 .done)))

def T626 : Pt := (ic 0 571 571 (fk 572 1 T625 (nt 1 511 .done)))

def T627 : Pt := (ic 0 570 570 (fk 571 1 T626 (nt 1 511 .done)))

def T628 : Pt := (ic 0 569 569 (fk 570 1 T627 (nt 1 511 .done)))

def T629 : Pt := (ic 0 568 568 (fk 569 1 T628 (nt 1 511 .done)))

def T630 : Pt := (ic 0 567 567 (fk 568 1 T629 (nt 1 511 .done)))

def T631 : Pt := (ic 0 566 566 (fk 567 1 T630 (nt 1 511 .done)))

def T632 : Pt := (ic 0 565 565 (fk 566 1 T631 (nt 1 511 .done)))

def T633 : Pt := (ic 0 564 564 (fk 565 1 T632 (nt 1 511 .done)))

def T634 : Pt := (ic 0 563 563 (fk 564 1 T633 (nt 1 511 .done)))

def T635 : Pt := (ic 0 562 562 (fk 563 1 T634 (nt 1 511 .done)))

def T636 : Pt := (ic 0 561 561 (fk 562 1 T635 (nt 1 511 .done)))

def T637 : Pt := (ic 0 560 560 (fk 561 1 T636 (nt 1 511 .done)))

def T638 : Pt := (ic 0 559 559 (fk 560 1 T637 (nt 1 511 .done)))

def T639 : Pt := (ic 0 558 558 (fk 559 1 T638 (nt 1 511 .done)))

def T640 : Pt := (ic 0 557 557 (fk 558 1 T639 (nt 1 511 .done)))

def T641 : Pt := (ic 0 556 556 (fk 557 1 T640 (nt 1 511 .done)))

def T642 : Pt := (ic 0 555 555 (fk 556 1 T641 (nt 1 511 .done)))

def T643 : Pt := (ic 0 554 554 (fk 555 1 T642 (nt 1 511 .done)))

def T644 : Pt := (ic 0 553 553 (fk 554 1 T643 (nt 1 511 .done)))

def T645 : Pt := (ic 0 552 552 (fk 553 1 T644 (nt 1 511 .done)))

def T646 : Pt := (ic 0 551 551 (fk 552 1 T645 (nt 1 511 .done)))

def T647 : Pt := (ic 0 550 550 (fk 551 1 T646 (nt 1 511 .done)))

def T648 : Pt := (ic 0 549 549 (fk 550 1 T647 (nt 1 511 .done)))

def T649 : Pt := (ic 0 548 548 (fk 549 1 T648 (nt 1 511 .done)))

def T650 : Pt := (ic 0 547 547 (fk 548 1 T649 (nt 1 511 .done)))

def T651 : Pt := (ic 0 546 546 (fk 547 1 T650 (nt 1 511 .done)))

def T652 : Pt := (ic 0 545 545 (fk 546 1 T651 (nt 1 511 .done)))

def T653 : Pt := (ic 0 544 544 (fk 545 1 T652 (nt 1 511 .done)))

def T654 : Pt := (ic 0 543 543 (fk 544 1 T653 (nt 1 511 .done)))

def T655 : Pt := (ic 0 542 542 (fk 543 1 T654 (nt 1 511 .done)))

def T656 : Pt := (ic 0 541 541 (fk 542 1 T655 (nt 1 511 .done)))

def T657 : Pt := (ic 0 540 540 (fk 541 1 T656 (nt 1 511 .done)))

def T658 : Pt := (ic 0 539 539 (fk 540 1 T657 (nt 1 511 .done)))

def T659 : Pt := (ic 0 538 538 (fk 539 1 T658 (nt 1 511 .done)))

def T660 : Pt := (ic 0 537 537 (fk 538 1 T659 (nt 1 511 .done)))

def T661 : Pt := (ic 0 536 536 (fk 537 1 T660 (nt 1 511 .done)))

def T662 : Pt := (ic 0 535 535 (fk 536 1 T661 (nt 1 511 .done)))

def T663 : Pt := (ic 0 534 534 (fk 535 1 T662 (nt 1 511 .done)))

def T664 : Pt := (ic 0 533 533 (fk 534 1 T663 (nt 1 511 .done)))

def T665 : Pt := (ic 0 532 532 (fk 533 1 T664 (nt 1 511 .done)))

def T666 : Pt := (ic 0 531 531 (fk 532 1 T665 (nt 1 511 .done)))

def T667 : Pt := (ic 0 530 530 (fk 531 1 T666 (nt 1 511 .done)))

def T668 : Pt := (ic 0 529 529 (fk 530 1 T667 (nt 1 511 .done)))

def T669 : Pt := (ic 0 528 528 (fk 529 1 T668 (nt 1 511 .done)))

def T670 : Pt := (ic 0 527 527 (fk 528 1 T669 (nt 1 511 .done)))

def T671 : Pt := (ic 0 526 526 (fk 527 1 T670 (nt 1 511 .done)))

def T672 : Pt := (ic 0 525 525 (fk 526 1 T671 (nt 1 511 .done)))

def T673 : Pt := (ic 0 524 524 (fk 525 1 T672 (nt 1 511 .done)))

def T674 : Pt := (ic 0 523 523 (fk 524 1 T673 (nt 1 511 .done)))

def T675 : Pt := (ic 0 522 522 (fk 523 1 T674 (nt 1 511 .done)))

def T676 : Pt := (ic 0 521 521 (fk 522 1 T675 (nt 1 511 .done)))

def T677 : Pt := (ic 0 520 520 (fk 521 1 T676 (nt 1 511 .done)))

def T678 : Pt := (ic 0 519 519 (fk 520 1 T677 (nt 1 511 .done)))

def T679 : Pt := (ic 0 518 518 (fk 519 1 T678 (nt 1 511 .done)))

def T680 : Pt := (ic 0 517 517 (fk 518 1 T679 (nt 1 511 .done)))

def T681 : Pt := (ic 0 516 516 (fk 517 1 T680 (nt 1 511 .done)))

def T682 : Pt := (ic 0 515 515 (fk 516 1 T681 (nt 1 511 .done)))

def T683 : Pt := (ic 0 514 514 (fk 515 1 T682 (nt 1 511 .done)))

def T684 : Pt := (ic 0 513 513 (fk 514 1 T683 (nt 1 511 .done)))

def T685 : Pt := (ic 0 512 512 (fk 513 1 T684 (nt 1 511 .done)))

def T686 : Pt := (ic 0 511 511 (.yes (.le (.a 0 (511)) (.c 511)) (fk 512 1 T685 (nt 1 511 .done))))

def T687 : Pt := (ic 0 510 510 (nc 0 511 510 (fk 511 1 T686 (yt 1 511 .done))))

def T688 : Pt := (ic 0 509 509 (nc 0 511 509 (fk 510 1 T687 (yt 1 511 .done))))

def T689 : Pt := (ic 0 508 508 (nc 0 511 508 (fk 509 1 T688 (yt 1 511 .done))))

def T690 : Pt := (ic 0 507 507 (nc 0 511 507 (fk 508 1 T689 (yt 1 511 .done))))

def T691 : Pt := (ic 0 506 506 (nc 0 511 506 (fk 507 1 T690 (yt 1 511 .done))))

def T692 : Pt := (ic 0 505 505 (nc 0 511 505 (fk 506 1 T691 (yt 1 511 .done))))

def T693 : Pt := (ic 0 504 504 (nc 0 511 504 (fk 505 1 T692 (yt 1 511 .done))))

def T694 : Pt := (ic 0 503 503 (nc 0 511 503 (fk 504 1 T693 (yt 1 511 .done))))

def T695 : Pt := (ic 0 502 502 (nc 0 511 502 (fk 503 1 T694 (yt 1 511 .done))))

def T696 : Pt := (ic 0 501 501 (nc 0 511 501 (fk 502 1 T695 (yt 1 511 .done))))

def T697 : Pt := (ic 0 500 500 (nc 0 511 500 (fk 501 1 T696 (yt 1 511 .done))))

def T698 : Pt := (ic 0 499 499 (nc 0 511 499 (fk 500 1 T697 (yt 1 511 .done))))

def T699 : Pt := (ic 0 498 498 (nc 0 511 498 (fk 499 1 T698 (yt 1 511 .done))))

def T700 : Pt := (ic 0 497 497 (nc 0 511 497 (fk 498 1 T699 (yt 1 511 .done))))

def T701 : Pt := (ic 0 496 496 (nc 0 511 496 (fk 497 1 T700 (yt 1 511 .done))))

def T702 : Pt := (ic 0 495 495 (nc 0 511 495 (fk 496 1 T701 (yt 1 511 .done))))

def T703 : Pt := (ic 0 494 494 (nc 0 511 494 (fk 495 1 T702 (yt 1 511 .done))))

def T704 : Pt := (ic 0 493 493 (nc 0 511 493 (fk 494 1 T703 (yt 1 511 .done))))

def T705 : Pt := (ic 0 492 492 (nc 0 511 492 (fk 493 1 T704 (yt 1 511 .done))))

def T706 : Pt := (ic 0 491 491 (nc 0 511 491 (fk 492 1 T705 (yt 1 511 .done))))

def T707 : Pt := (ic 0 490 490 (nc 0 511 490 (fk 491 1 T706 (yt 1 511 .done))))

def T708 : Pt := (ic 0 489 489 (nc 0 511 489 (fk 490 1 T707 (yt 1 511 .done))))

def T709 : Pt := (ic 0 488 488 (nc 0 511 488 (fk 489 1 T708 (yt 1 511 .done))))

def T710 : Pt := (ic 0 487 487 (nc 0 511 487 (fk 488 1 T709 (yt 1 511 .done))))

def T711 : Pt := (ic 0 486 486 (nc 0 511 486 (fk 487 1 T710 (yt 1 511 .done))))

def T712 : Pt := (ic 0 485 485 (nc 0 511 485 (fk 486 1 T711 (yt 1 511 .done))))

def T713 : Pt := (ic 0 484 484 (nc 0 511 484 (fk 485 1 T712 (yt 1 511 .done))))

def T714 : Pt := (ic 0 483 483 (nc 0 511 483 (fk 484 1 T713 (yt 1 511 .done))))

def T715 : Pt := (ic 0 482 482 (nc 0 511 482 (fk 483 1 T714 (yt 1 511 .done))))

def T716 : Pt := (ic 0 481 481 (nc 0 511 481 (fk 482 1 T715 (yt 1 511 .done))))

def T717 : Pt := (ic 0 480 480 (nc 0 511 480 (fk 481 1 T716 (yt 1 511 .done))))

def T718 : Pt := (ic 0 479 479 (nc 0 511 479 (fk 480 1 T717 (yt 1 511 .done))))

def T719 : Pt := (ic 0 478 478 (nc 0 511 478 (fk 479 1 T718 (yt 1 511 .done))))

def T720 : Pt := (ic 0 477 477 (nc 0 511 477 (fk 478 1 T719 (yt 1 511 .done))))

def T721 : Pt := (ic 0 476 476 (nc 0 511 476 (fk 477 1 T720 (yt 1 511 .done))))

def T722 : Pt := (ic 0 475 475 (nc 0 511 475 (fk 476 1 T721 (yt 1 511 .done))))

def T723 : Pt := (ic 0 474 474 (nc 0 511 474 (fk 475 1 T722 (yt 1 511 .done))))

def T724 : Pt := (ic 0 473 473 (nc 0 511 473 (fk 474 1 T723 (yt 1 511 .done))))

def T725 : Pt := (ic 0 472 472 (nc 0 511 472 (fk 473 1 T724 (yt 1 511 .done))))

def T726 : Pt := (ic 0 471 471 (nc 0 511 471 (fk 472 1 T725 (yt 1 511 .done))))

def T727 : Pt := (ic 0 470 470 (nc 0 511 470 (fk 471 1 T726 (yt 1 511 .done))))

def T728 : Pt := (ic 0 469 469 (nc 0 511 469 (fk 470 1 T727 (yt 1 511 .done))))

def T729 : Pt := (ic 0 468 468 (nc 0 511 468 (fk 469 1 T728 (yt 1 511 .done))))

def T730 : Pt := (ic 0 467 467 (nc 0 511 467 (fk 468 1 T729 (yt 1 511 .done))))

def T731 : Pt := (ic 0 466 466 (nc 0 511 466 (fk 467 1 T730 (yt 1 511 .done))))

def T732 : Pt := (ic 0 465 465 (nc 0 511 465 (fk 466 1 T731 (yt 1 511 .done))))

def T733 : Pt := (ic 0 464 464 (nc 0 511 464 (fk 465 1 T732 (yt 1 511 .done))))

def T734 : Pt := (ic 0 463 463 (nc 0 511 463 (fk 464 1 T733 (yt 1 511 .done))))

def T735 : Pt := (ic 0 462 462 (nc 0 511 462 (fk 463 1 T734 (yt 1 511 .done))))

def T736 : Pt := (ic 0 461 461 (nc 0 511 461 (fk 462 1 T735 (yt 1 511 .done))))

def T737 : Pt := (ic 0 460 460 (nc 0 511 460 (fk 461 1 T736 (yt 1 511 .done))))

def T738 : Pt := (ic 0 459 459 (nc 0 511 459 (fk 460 1 T737 (yt 1 511 .done))))

def T739 : Pt := (ic 0 458 458 (nc 0 511 458 (fk 459 1 T738 (yt 1 511 .done))))

def T740 : Pt := (ic 0 457 457 (nc 0 511 457 (fk 458 1 T739 (yt 1 511 .done))))

def T741 : Pt := (ic 0 456 456 (nc 0 511 456 (fk 457 1 T740 (yt 1 511 .done))))

def T742 : Pt := (ic 0 455 455 (nc 0 511 455 (fk 456 1 T741 (yt 1 511 .done))))

def T743 : Pt := (ic 0 454 454 (nc 0 511 454 (fk 455 1 T742 (yt 1 511 .done))))

def T744 : Pt := (ic 0 453 453 (nc 0 511 453 (fk 454 1 T743 (yt 1 511 .done))))

def T745 : Pt := (ic 0 452 452 (nc 0 511 452 (fk 453 1 T744 (yt 1 511 .done))))

def T746 : Pt := (ic 0 451 451 (nc 0 511 451 (fk 452 1 T745 (yt 1 511 .done))))

def T747 : Pt := (ic 0 450 450 (nc 0 511 450 (fk 451 1 T746 (yt 1 511 .done))))

def T748 : Pt := (ic 0 449 449 (nc 0 511 449 (fk 450 1 T747 (yt 1 511 .done))))

def T749 : Pt := (ic 0 448 448 (nc 0 511 448 (fk 449 1 T748 (yt 1 511 .done))))

def T750 : Pt := (ic 0 447 447 (nc 0 511 447 (fk 448 1 T749 (yt 1 511 .done))))

def T751 : Pt := (ic 0 446 446 (nc 0 511 446 (fk 447 1 T750 (yt 1 511 .done))))

def T752 : Pt := (ic 0 445 445 (nc 0 511 445 (fk 446 1 T751 (yt 1 511 .done))))

def T753 : Pt := (ic 0 444 444 (nc 0 511 444 (fk 445 1 T752 (yt 1 511 .done))))

def T754 : Pt := (ic 0 443 443 (nc 0 511 443 (fk 444 1 T753 (yt 1 511 .done))))

def T755 : Pt := (ic 0 442 442 (nc 0 511 442 (fk 443 1 T754 (yt 1 511 .done))))

def T756 : Pt := (ic 0 441 441 (nc 0 511 441 (fk 442 1 T755 (yt 1 511 .done))))

def T757 : Pt := (ic 0 440 440 (nc 0 511 440 (fk 441 1 T756 (yt 1 511 .done))))

def T758 : Pt := (ic 0 439 439 (nc 0 511 439 (fk 440 1 T757 (yt 1 511 .done))))

def T759 : Pt := (ic 0 438 438 (nc 0 511 438 (fk 439 1 T758 (yt 1 511 .done))))

def T760 : Pt := (ic 0 437 437 (nc 0 511 437 (fk 438 1 T759 (yt 1 511 .done))))

def T761 : Pt := (ic 0 436 436 (nc 0 511 436 (fk 437 1 T760 (yt 1 511 .done))))

def T762 : Pt := (ic 0 435 435 (nc 0 511 435 (fk 436 1 T761 (yt 1 511 .done))))

def T763 : Pt := (ic 0 434 434 (nc 0 511 434 (fk 435 1 T762 (yt 1 511 .done))))

def T764 : Pt := (ic 0 433 433 (nc 0 511 433 (fk 434 1 T763 (yt 1 511 .done))))

def T765 : Pt := (ic 0 432 432 (nc 0 511 432 (fk 433 1 T764 (yt 1 511 .done))))

def T766 : Pt := (ic 0 431 431 (nc 0 511 431 (fk 432 1 T765 (yt 1 511 .done))))

def T767 : Pt := (ic 0 430 430 (nc 0 511 430 (fk 431 1 T766 (yt 1 511 .done))))

def T768 : Pt := (ic 0 429 429 (nc 0 511 429 (fk 430 1 T767 (yt 1 511 .done))))

def T769 : Pt := (ic 0 428 428 (nc 0 511 428 (fk 429 1 T768 (yt 1 511 .done))))

def T770 : Pt := (ic 0 427 427 (nc 0 511 427 (fk 428 1 T769 (yt 1 511 .done))))

def T771 : Pt := (ic 0 426 426 (nc 0 511 426 (fk 427 1 T770 (yt 1 511 .done))))

def T772 : Pt := (ic 0 425 425 (nc 0 511 425 (fk 426 1 T771 (yt 1 511 .done))))

def T773 : Pt := (ic 0 424 424 (nc 0 511 424 (fk 425 1 T772 (yt 1 511 .done))))

def T774 : Pt := (ic 0 423 423 (nc 0 511 423 (fk 424 1 T773 (yt 1 511 .done))))

def T775 : Pt := (ic 0 422 422 (nc 0 511 422 (fk 423 1 T774 (yt 1 511 .done))))

def T776 : Pt := (ic 0 421 421 (nc 0 511 421 (fk 422 1 T775 (yt 1 511 .done))))

def T777 : Pt := (ic 0 420 420 (nc 0 511 420 (fk 421 1 T776 (yt 1 511 .done))))

def T778 : Pt := (ic 0 419 419 (nc 0 511 419 (fk 420 1 T777 (yt 1 511 .done))))

def T779 : Pt := (ic 0 418 418 (nc 0 511 418 (fk 419 1 T778 (yt 1 511 .done))))

def T780 : Pt := (ic 0 417 417 (nc 0 511 417 (fk 418 1 T779 (yt 1 511 .done))))

def T781 : Pt := (ic 0 416 416 (nc 0 511 416 (fk 417 1 T780 (yt 1 511 .done))))

def T782 : Pt := (ic 0 415 415 (nc 0 511 415 (fk 416 1 T781 (yt 1 511 .done))))

def T783 : Pt := (ic 0 414 414 (nc 0 511 414 (fk 415 1 T782 (yt 1 511 .done))))

def T784 : Pt := (ic 0 413 413 (nc 0 511 413 (fk 414 1 T783 (yt 1 511 .done))))

def T785 : Pt := (ic 0 412 412 (nc 0 511 412 (fk 413 1 T784 (yt 1 511 .done))))

def T786 : Pt := (ic 0 411 411 (nc 0 511 411 (fk 412 1 T785 (yt 1 511 .done))))

def T787 : Pt := (ic 0 410 410 (nc 0 511 410 (fk 411 1 T786 (yt 1 511 .done))))

def T788 : Pt := (ic 0 409 409 (nc 0 511 409 (fk 410 1 T787 (yt 1 511 .done))))

def T789 : Pt := (ic 0 408 408 (nc 0 511 408 (fk 409 1 T788 (yt 1 511 .done))))

def T790 : Pt := (ic 0 407 407 (nc 0 511 407 (fk 408 1 T789 (yt 1 511 .done))))

def T791 : Pt := (ic 0 406 406 (nc 0 511 406 (fk 407 1 T790 (yt 1 511 .done))))

def T792 : Pt := (ic 0 405 405 (nc 0 511 405 (fk 406 1 T791 (yt 1 511 .done))))

def T793 : Pt := (ic 0 404 404 (nc 0 511 404 (fk 405 1 T792 (yt 1 511 .done))))

def T794 : Pt := (ic 0 403 403 (nc 0 511 403 (fk 404 1 T793 (yt 1 511 .done))))

def T795 : Pt := (ic 0 402 402 (nc 0 511 402 (fk 403 1 T794 (yt 1 511 .done))))

def T796 : Pt := (ic 0 401 401 (nc 0 511 401 (fk 402 1 T795 (yt 1 511 .done))))

def T797 : Pt := (ic 0 400 400 (nc 0 511 400 (fk 401 1 T796 (yt 1 511 .done))))

def T798 : Pt := (ic 0 399 399 (nc 0 511 399 (fk 400 1 T797 (yt 1 511 .done))))

def T799 : Pt := (ic 0 398 398 (nc 0 511 398 (fk 399 1 T798 (yt 1 511 .done))))

def T800 : Pt := (ic 0 397 397 (nc 0 511 397 (fk 398 1 T799 (yt 1 511 .done))))

def T801 : Pt := (ic 0 396 396 (nc 0 511 396 (fk 397 1 T800 (yt 1 511 .done))))

def T802 : Pt := (ic 0 395 395 (nc 0 511 395 (fk 396 1 T801 (yt 1 511 .done))))

def T803 : Pt := (ic 0 394 394 (nc 0 511 394 (fk 395 1 T802 (yt 1 511 .done))))

def T804 : Pt := (ic 0 393 393 (nc 0 511 393 (fk 394 1 T803 (yt 1 511 .done))))

def T805 : Pt := (ic 0 392 392 (nc 0 511 392 (fk 393 1 T804 (yt 1 511 .done))))

def T806 : Pt := (ic 0 391 391 (nc 0 511 391 (fk 392 1 T805 (yt 1 511 .done))))

def T807 : Pt := (ic 0 390 390 (nc 0 511 390 (fk 391 1 T806 (yt 1 511 .done))))

def T808 : Pt := (ic 0 389 389 (nc 0 511 389 (fk 390 1 T807 (yt 1 511 .done))))

def T809 : Pt := (ic 0 388 388 (nc 0 511 388 (fk 389 1 T808 (yt 1 511 .done))))

def T810 : Pt := (ic 0 387 387 (nc 0 511 387 (fk 388 1 T809 (yt 1 511 .done))))

def T811 : Pt := (ic 0 386 386 (nc 0 511 386 (fk 387 1 T810 (yt 1 511 .done))))

def T812 : Pt := (ic 0 385 385 (nc 0 511 385 (fk 386 1 T811 (yt 1 511 .done))))

def T813 : Pt := (ic 0 384 384 (nc 0 511 384 (fk 385 1 T812 (yt 1 511 .done))))

def T814 : Pt := (ic 0 383 383 (nc 0 511 383 (fk 384 1 T813 (yt 1 511 .done))))

def T815 : Pt := (ic 0 382 382 (nc 0 511 382 (fk 383 1 T814 (yt 1 511 .done))))

def T816 : Pt := (ic 0 381 381 (nc 0 511 381 (fk 382 1 T815 (yt 1 511 .done))))

def T817 : Pt := (ic 0 380 380 (nc 0 511 380 (fk 381 1 T816 (yt 1 511 .done))))

def T818 : Pt := (ic 0 379 379 (nc 0 511 379 (fk 380 1 T817 (yt 1 511 .done))))

def T819 : Pt := (ic 0 378 378 (nc 0 511 378 (fk 379 1 T818 (yt 1 511 .done))))

def T820 : Pt := (ic 0 377 377 (nc 0 511 377 (fk 378 1 T819 (yt 1 511 .done))))

def T821 : Pt := (ic 0 376 376 (nc 0 511 376 (fk 377 1 T820 (yt 1 511 .done))))

def T822 : Pt := (ic 0 375 375 (nc 0 511 375 (fk 376 1 T821 (yt 1 511 .done))))

def T823 : Pt := (ic 0 374 374 (nc 0 511 374 (fk 375 1 T822 (yt 1 511 .done))))

def T824 : Pt := (ic 0 373 373 (nc 0 511 373 (fk 374 1 T823 (yt 1 511 .done))))

def T825 : Pt := (ic 0 372 372 (nc 0 511 372 (fk 373 1 T824 (yt 1 511 .done))))

def T826 : Pt := (ic 0 371 371 (nc 0 511 371 (fk 372 1 T825 (yt 1 511 .done))))

def T827 : Pt := (ic 0 370 370 (nc 0 511 370 (fk 371 1 T826 (yt 1 511 .done))))

def T828 : Pt := (ic 0 369 369 (nc 0 511 369 (fk 370 1 T827 (yt 1 511 .done))))

def T829 : Pt := (ic 0 368 368 (nc 0 511 368 (fk 369 1 T828 (yt 1 511 .done))))

def T830 : Pt := (ic 0 367 367 (nc 0 511 367 (fk 368 1 T829 (yt 1 511 .done))))

def T831 : Pt := (ic 0 366 366 (nc 0 511 366 (fk 367 1 T830 (yt 1 511 .done))))

def T832 : Pt := (ic 0 365 365 (nc 0 511 365 (fk 366 1 T831 (yt 1 511 .done))))

def T833 : Pt := (ic 0 364 364 (nc 0 511 364 (fk 365 1 T832 (yt 1 511 .done))))

def T834 : Pt := (ic 0 363 363 (nc 0 511 363 (fk 364 1 T833 (yt 1 511 .done))))

def T835 : Pt := (ic 0 362 362 (nc 0 511 362 (fk 363 1 T834 (yt 1 511 .done))))

def T836 : Pt := (ic 0 361 361 (nc 0 511 361 (fk 362 1 T835 (yt 1 511 .done))))

def T837 : Pt := (ic 0 360 360 (nc 0 511 360 (fk 361 1 T836 (yt 1 511 .done))))

def T838 : Pt := (ic 0 359 359 (nc 0 511 359 (fk 360 1 T837 (yt 1 511 .done))))

def T839 : Pt := (ic 0 358 358 (nc 0 511 358 (fk 359 1 T838 (yt 1 511 .done))))

def T840 : Pt := (ic 0 357 357 (nc 0 511 357 (fk 358 1 T839 (yt 1 511 .done))))

def T841 : Pt := (ic 0 356 356 (nc 0 511 356 (fk 357 1 T840 (yt 1 511 .done))))

def T842 : Pt := (ic 0 355 355 (nc 0 511 355 (fk 356 1 T841 (yt 1 511 .done))))

def T843 : Pt := (ic 0 354 354 (nc 0 511 354 (fk 355 1 T842 (yt 1 511 .done))))

def T844 : Pt := (ic 0 353 353 (nc 0 511 353 (fk 354 1 T843 (yt 1 511 .done))))

def T845 : Pt := (ic 0 352 352 (nc 0 511 352 (fk 353 1 T844 (yt 1 511 .done))))

def T846 : Pt := (ic 0 351 351 (nc 0 511 351 (fk 352 1 T845 (yt 1 511 .done))))

def T847 : Pt := (ic 0 350 350 (nc 0 511 350 (fk 351 1 T846 (yt 1 511 .done))))

def T848 : Pt := (ic 0 349 349 (nc 0 511 349 (fk 350 1 T847 (yt 1 511 .done))))

def T849 : Pt := (ic 0 348 348 (nc 0 511 348 (fk 349 1 T848 (yt 1 511 .done))))

def T850 : Pt := (ic 0 347 347 (nc 0 511 347 (fk 348 1 T849 (yt 1 511 .done))))

def T851 : Pt := (ic 0 346 346 (nc 0 511 346 (fk 347 1 T850 (yt 1 511 .done))))

def T852 : Pt := (ic 0 345 345 (nc 0 511 345 (fk 346 1 T851 (yt 1 511 .done))))

def T853 : Pt := (ic 0 344 344 (nc 0 511 344 (fk 345 1 T852 (yt 1 511 .done))))

def T854 : Pt := (ic 0 343 343 (nc 0 511 343 (fk 344 1 T853 (yt 1 511 .done))))

def T855 : Pt := (ic 0 342 342 (nc 0 511 342 (fk 343 1 T854 (yt 1 511 .done))))

def T856 : Pt := (ic 0 341 341 (nc 0 511 341 (fk 342 1 T855 (yt 1 511 .done))))

def T857 : Pt := (ic 0 340 340 (nc 0 511 340 (fk 341 1 T856 (yt 1 511 .done))))

def T858 : Pt := (ic 0 339 339 (nc 0 511 339 (fk 340 1 T857 (yt 1 511 .done))))

def T859 : Pt := (ic 0 338 338 (nc 0 511 338 (fk 339 1 T858 (yt 1 511 .done))))

def T860 : Pt := (ic 0 337 337 (nc 0 511 337 (fk 338 1 T859 (yt 1 511 .done))))

def T861 : Pt := (ic 0 336 336 (nc 0 511 336 (fk 337 1 T860 (yt 1 511 .done))))

def T862 : Pt := (ic 0 335 335 (nc 0 511 335 (fk 336 1 T861 (yt 1 511 .done))))

def T863 : Pt := (ic 0 334 334 (nc 0 511 334 (fk 335 1 T862 (yt 1 511 .done))))

def T864 : Pt := (ic 0 333 333 (nc 0 511 333 (fk 334 1 T863 (yt 1 511 .done))))

def T865 : Pt := (ic 0 332 332 (nc 0 511 332 (fk 333 1 T864 (yt 1 511 .done))))

def T866 : Pt := (ic 0 331 331 (nc 0 511 331 (fk 332 1 T865 (yt 1 511 .done))))

def T867 : Pt := (ic 0 330 330 (nc 0 511 330 (fk 331 1 T866 (yt 1 511 .done))))

def T868 : Pt := (ic 0 329 329 (nc 0 511 329 (fk 330 1 T867 (yt 1 511 .done))))

def T869 : Pt := (ic 0 328 328 (nc 0 511 328 (fk 329 1 T868 (yt 1 511 .done))))

def T870 : Pt := (ic 0 327 327 (nc 0 511 327 (fk 328 1 T869 (yt 1 511 .done))))

def T871 : Pt := (ic 0 326 326 (nc 0 511 326 (fk 327 1 T870 (yt 1 511 .done))))

def T872 : Pt := (ic 0 325 325 (nc 0 511 325 (fk 326 1 T871 (yt 1 511 .done))))

def T873 : Pt := (ic 0 324 324 (nc 0 511 324 (fk 325 1 T872 (yt 1 511 .done))))

def T874 : Pt := (ic 0 323 323 (nc 0 511 323 (fk 324 1 T873 (yt 1 511 .done))))

def T875 : Pt := (ic 0 322 322 (nc 0 511 322 (fk 323 1 T874 (yt 1 511 .done))))

def T876 : Pt := (ic 0 321 321 (nc 0 511 321 (fk 322 1 T875 (yt 1 511 .done))))

def T877 : Pt := (ic 0 320 320 (nc 0 511 320 (fk 321 1 T876 (yt 1 511 .done))))

def T878 : Pt := (ic 0 319 319 (nc 0 511 319 (fk 320 1 T877 (yt 1 511 .done))))

def T879 : Pt := (ic 0 318 318 (nc 0 511 318 (fk 319 1 T878 (yt 1 511 .done))))

def T880 : Pt := (ic 0 317 317 (nc 0 511 317 (fk 318 1 T879 (yt 1 511 .done))))

def T881 : Pt := (ic 0 316 316 (nc 0 511 316 (fk 317 1 T880 (yt 1 511 .done))))

def T882 : Pt := (ic 0 315 315 (nc 0 511 315 (fk 316 1 T881 (yt 1 511 .done))))

def T883 : Pt := (ic 0 314 314 (nc 0 511 314 (fk 315 1 T882 (yt 1 511 .done))))

def T884 : Pt := (ic 0 313 313 (nc 0 511 313 (fk 314 1 T883 (yt 1 511 .done))))

def T885 : Pt := (ic 0 312 312 (nc 0 511 312 (fk 313 1 T884 (yt 1 511 .done))))

def T886 : Pt := (ic 0 311 311 (nc 0 511 311 (fk 312 1 T885 (yt 1 511 .done))))

def T887 : Pt := (ic 0 310 310 (nc 0 511 310 (fk 311 1 T886 (yt 1 511 .done))))

def T888 : Pt := (ic 0 309 309 (nc 0 511 309 (fk 310 1 T887 (yt 1 511 .done))))

def T889 : Pt := (ic 0 308 308 (nc 0 511 308 (fk 309 1 T888 (yt 1 511 .done))))

def T890 : Pt := (ic 0 307 307 (nc 0 511 307 (fk 308 1 T889 (yt 1 511 .done))))

def T891 : Pt := (ic 0 306 306 (nc 0 511 306 (fk 307 1 T890 (yt 1 511 .done))))

def T892 : Pt := (ic 0 305 305 (nc 0 511 305 (fk 306 1 T891 (yt 1 511 .done))))

def T893 : Pt := (ic 0 304 304 (nc 0 511 304 (fk 305 1 T892 (yt 1 511 .done))))

def T894 : Pt := (ic 0 303 303 (nc 0 511 303 (fk 304 1 T893 (yt 1 511 .done))))

def T895 : Pt := (ic 0 302 302 (nc 0 511 302 (fk 303 1 T894 (yt 1 511 .done))))

def T896 : Pt := (ic 0 301 301 (nc 0 511 301 (fk 302 1 T895 (yt 1 511 .done))))

def T897 : Pt := (ic 0 300 300 (nc 0 511 300 (fk 301 1 T896 (yt 1 511 .done))))

def T898 : Pt := (ic 0 299 299 (nc 0 511 299 (fk 300 1 T897 (yt 1 511 .done))))

def T899 : Pt := (ic 0 298 298 (nc 0 511 298 (fk 299 1 T898 (yt 1 511 .done))))

def T900 : Pt := (ic 0 297 297 (nc 0 511 297 (fk 298 1 T899 (yt 1 511 .done))))

def T901 : Pt := (ic 0 296 296 (nc 0 511 296 (fk 297 1 T900 (yt 1 511 .done))))

def T902 : Pt := (ic 0 295 295 (nc 0 511 295 (fk 296 1 T901 (yt 1 511 .done))))

def T903 : Pt := (ic 0 294 294 (nc 0 511 294 (fk 295 1 T902 (yt 1 511 .done))))

def T904 : Pt := (ic 0 293 293 (nc 0 511 293 (fk 294 1 T903 (yt 1 511 .done))))

def T905 : Pt := (ic 0 292 292 (nc 0 511 292 (fk 293 1 T904 (yt 1 511 .done))))

def T906 : Pt := (ic 0 291 291 (nc 0 511 291 (fk 292 1 T905 (yt 1 511 .done))))

def T907 : Pt := (ic 0 290 290 (nc 0 511 290 (fk 291 1 T906 (yt 1 511 .done))))

def T908 : Pt := (ic 0 289 289 (nc 0 511 289 (fk 290 1 T907 (yt 1 511 .done))))

def T909 : Pt := (ic 0 288 288 (nc 0 511 288 (fk 289 1 T908 (yt 1 511 .done))))

def T910 : Pt := (ic 0 287 287 (nc 0 511 287 (fk 288 1 T909 (yt 1 511 .done))))

def T911 : Pt := (ic 0 286 286 (nc 0 511 286 (fk 287 1 T910 (yt 1 511 .done))))

def T912 : Pt := (ic 0 285 285 (nc 0 511 285 (fk 286 1 T911 (yt 1 511 .done))))

def T913 : Pt := (ic 0 284 284 (nc 0 511 284 (fk 285 1 T912 (yt 1 511 .done))))

def T914 : Pt := (ic 0 283 283 (nc 0 511 283 (fk 284 1 T913 (yt 1 511 .done))))

def T915 : Pt := (ic 0 282 282 (nc 0 511 282 (fk 283 1 T914 (yt 1 511 .done))))

def T916 : Pt := (ic 0 281 281 (nc 0 511 281 (fk 282 1 T915 (yt 1 511 .done))))

def T917 : Pt := (ic 0 280 280 (nc 0 511 280 (fk 281 1 T916 (yt 1 511 .done))))

def T918 : Pt := (ic 0 279 279 (nc 0 511 279 (fk 280 1 T917 (yt 1 511 .done))))

def T919 : Pt := (ic 0 278 278 (nc 0 511 278 (fk 279 1 T918 (yt 1 511 .done))))

def T920 : Pt := (ic 0 277 277 (nc 0 511 277 (fk 278 1 T919 (yt 1 511 .done))))

def T921 : Pt := (ic 0 276 276 (nc 0 511 276 (fk 277 1 T920 (yt 1 511 .done))))

def T922 : Pt := (ic 0 275 275 (nc 0 511 275 (fk 276 1 T921 (yt 1 511 .done))))

def T923 : Pt := (ic 0 274 274 (nc 0 511 274 (fk 275 1 T922 (yt 1 511 .done))))

def T924 : Pt := (ic 0 273 273 (nc 0 511 273 (fk 274 1 T923 (yt 1 511 .done))))

def T925 : Pt := (ic 0 272 272 (nc 0 511 272 (fk 273 1 T924 (yt 1 511 .done))))

def T926 : Pt := (ic 0 271 271 (nc 0 511 271 (fk 272 1 T925 (yt 1 511 .done))))

def T927 : Pt := (ic 0 270 270 (nc 0 511 270 (fk 271 1 T926 (yt 1 511 .done))))

def T928 : Pt := (ic 0 269 269 (nc 0 511 269 (fk 270 1 T927 (yt 1 511 .done))))

def T929 : Pt := (ic 0 268 268 (nc 0 511 268 (fk 269 1 T928 (yt 1 511 .done))))

def T930 : Pt := (ic 0 267 267 (nc 0 511 267 (fk 268 1 T929 (yt 1 511 .done))))

def T931 : Pt := (ic 0 266 266 (nc 0 511 266 (fk 267 1 T930 (yt 1 511 .done))))

def T932 : Pt := (ic 0 265 265 (nc 0 511 265 (fk 266 1 T931 (yt 1 511 .done))))

def T933 : Pt := (ic 0 264 264 (nc 0 511 264 (fk 265 1 T932 (yt 1 511 .done))))

def T934 : Pt := (ic 0 263 263 (nc 0 511 263 (fk 264 1 T933 (yt 1 511 .done))))

def T935 : Pt := (ic 0 262 262 (nc 0 511 262 (fk 263 1 T934 (yt 1 511 .done))))

def T936 : Pt := (ic 0 261 261 (nc 0 511 261 (fk 262 1 T935 (yt 1 511 .done))))

def T937 : Pt := (ic 0 260 260 (nc 0 511 260 (fk 261 1 T936 (yt 1 511 .done))))

def T938 : Pt := (ic 0 259 259 (nc 0 511 259 (fk 260 1 T937 (yt 1 511 .done))))

def T939 : Pt := (ic 0 258 258 (nc 0 511 258 (fk 259 1 T938 (yt 1 511 .done))))

def T940 : Pt := (ic 0 257 257 (nc 0 511 257 (fk 258 1 T939 (yt 1 511 .done))))

def T941 : Pt := (ic 0 256 256 (nc 0 511 256 (fk 257 1 T940 (yt 1 511 .done))))

def T942 : Pt := (ic 0 255 255 (.yes (.le (.a 0 (255)) (.c 255)) (nc 0 511 255 (fk 256 1 T941 (yt 1 511 .done)))))

def T943 : Pt := (ic 0 254 254 (nc 0 255 254 (nc 0 511 254 (fk 255 1 T942 (yt 1 511 .done)))))

def T944 : Pt := (ic 0 253 253 (nc 0 255 253 (nc 0 511 253 (fk 254 1 T943 (yt 1 511 .done)))))

def T945 : Pt := (ic 0 252 252 (nc 0 255 252 (nc 0 511 252 (fk 253 1 T944 (yt 1 511 .done)))))

def T946 : Pt := (ic 0 251 251 (nc 0 255 251 (nc 0 511 251 (fk 252 1 T945 (yt 1 511 .done)))))

def T947 : Pt := (ic 0 250 250 (nc 0 255 250 (nc 0 511 250 (fk 251 1 T946 (yt 1 511 .done)))))

def T948 : Pt := (ic 0 249 249 (nc 0 255 249 (nc 0 511 249 (fk 250 1 T947 (yt 1 511 .done)))))

def T949 : Pt := (ic 0 248 248 (nc 0 255 248 (nc 0 511 248 (fk 249 1 T948 (yt 1 511 .done)))))

def T950 : Pt := (ic 0 247 247 (nc 0 255 247 (nc 0 511 247 (fk 248 1 T949 (yt 1 511 .done)))))

def T951 : Pt := (ic 0 246 246 (nc 0 255 246 (nc 0 511 246 (fk 247 1 T950 (yt 1 511 .done)))))

def T952 : Pt := (ic 0 245 245 (nc 0 255 245 (nc 0 511 245 (fk 246 1 T951 (yt 1 511 .done)))))

def T953 : Pt := (ic 0 244 244 (nc 0 255 244 (nc 0 511 244 (fk 245 1 T952 (yt 1 511 .done)))))

def T954 : Pt := (ic 0 243 243 (nc 0 255 243 (nc 0 511 243 (fk 244 1 T953 (yt 1 511 .done)))))

def T955 : Pt := (ic 0 242 242 (nc 0 255 242 (nc 0 511 242 (fk 243 1 T954 (yt 1 511 .done)))))

def T956 : Pt := (ic 0 241 241 (nc 0 255 241 (nc 0 511 241 (fk 242 1 T955 (yt 1 511 .done)))))

def T957 : Pt := (ic 0 240 240 (nc 0 255 240 (nc 0 511 240 (fk 241 1 T956 (yt 1 511 .done)))))

def T958 : Pt := (ic 0 239 239 (nc 0 255 239 (nc 0 511 239 (fk 240 1 T957 (yt 1 511 .done)))))

def T959 : Pt := (ic 0 238 238 (nc 0 255 238 (nc 0 511 238 (fk 239 1 T958 (yt 1 511 .done)))))

def T960 : Pt := (ic 0 237 237 (nc 0 255 237 (nc 0 511 237 (fk 238 1 T959 (yt 1 511 .done)))))

def T961 : Pt := (ic 0 236 236 (nc 0 255 236 (nc 0 511 236 (fk 237 1 T960 (yt 1 511 .done)))))

def T962 : Pt := (ic 0 235 235 (nc 0 255 235 (nc 0 511 235 (fk 236 1 T961 (yt 1 511 .done)))))

def T963 : Pt := (ic 0 234 234 (nc 0 255 234 (nc 0 511 234 (fk 235 1 T962 (yt 1 511 .done)))))

def T964 : Pt := (ic 0 233 233 (nc 0 255 233 (nc 0 511 233 (fk 234 1 T963 (yt 1 511 .done)))))

def T965 : Pt := (ic 0 232 232 (nc 0 255 232 (nc 0 511 232 (fk 233 1 T964 (yt 1 511 .done)))))

def T966 : Pt := (ic 0 231 231 (nc 0 255 231 (nc 0 511 231 (fk 232 1 T965 (yt 1 511 .done)))))

def T967 : Pt := (ic 0 230 230 (nc 0 255 230 (nc 0 511 230 (fk 231 1 T966 (yt 1 511 .done)))))

def T968 : Pt := (ic 0 229 229 (nc 0 255 229 (nc 0 511 229 (fk 230 1 T967 (yt 1 511 .done)))))

def T969 : Pt := (ic 0 228 228 (nc 0 255 228 (nc 0 511 228 (fk 229 1 T968 (yt 1 511 .done)))))

def T970 : Pt := (ic 0 227 227 (nc 0 255 227 (nc 0 511 227 (fk 228 1 T969 (yt 1 511 .done)))))

def T971 : Pt := (ic 0 226 226 (nc 0 255 226 (nc 0 511 226 (fk 227 1 T970 (yt 1 511 .done)))))

def T972 : Pt := (ic 0 225 225 (nc 0 255 225 (nc 0 511 225 (fk 226 1 T971 (yt 1 511 .done)))))

def T973 : Pt := (ic 0 224 224 (nc 0 255 224 (nc 0 511 224 (fk 225 1 T972 (yt 1 511 .done)))))

def T974 : Pt := (ic 0 223 223 (nc 0 255 223 (nc 0 511 223 (fk 224 1 T973 (yt 1 511 .done)))))

def T975 : Pt := (ic 0 222 222 (nc 0 255 222 (nc 0 511 222 (fk 223 1 T974 (yt 1 511 .done)))))

def T976 : Pt := (ic 0 221 221 (nc 0 255 221 (nc 0 511 221 (fk 222 1 T975 (yt 1 511 .done)))))

def T977 : Pt := (ic 0 220 220 (nc 0 255 220 (nc 0 511 220 (fk 221 1 T976 (yt 1 511 .done)))))

def T978 : Pt := (ic 0 219 219 (nc 0 255 219 (nc 0 511 219 (fk 220 1 T977 (yt 1 511 .done)))))

def T979 : Pt := (ic 0 218 218 (nc 0 255 218 (nc 0 511 218 (fk 219 1 T978 (yt 1 511 .done)))))

def T980 : Pt := (ic 0 217 217 (nc 0 255 217 (nc 0 511 217 (fk 218 1 T979 (yt 1 511 .done)))))

def T981 : Pt := (ic 0 216 216 (nc 0 255 216 (nc 0 511 216 (fk 217 1 T980 (yt 1 511 .done)))))

def T982 : Pt := (ic 0 215 215 (nc 0 255 215 (nc 0 511 215 (fk 216 1 T981 (yt 1 511 .done)))))

def T983 : Pt := (ic 0 214 214 (nc 0 255 214 (nc 0 511 214 (fk 215 1 T982 (yt 1 511 .done)))))

def T984 : Pt := (ic 0 213 213 (nc 0 255 213 (nc 0 511 213 (fk 214 1 T983 (yt 1 511 .done)))))

def T985 : Pt := (ic 0 212 212 (nc 0 255 212 (nc 0 511 212 (fk 213 1 T984 (yt 1 511 .done)))))

def T986 : Pt := (ic 0 211 211 (nc 0 255 211 (nc 0 511 211 (fk 212 1 T985 (yt 1 511 .done)))))

def T987 : Pt := (ic 0 210 210 (nc 0 255 210 (nc 0 511 210 (fk 211 1 T986 (yt 1 511 .done)))))

def T988 : Pt := (ic 0 209 209 (nc 0 255 209 (nc 0 511 209 (fk 210 1 T987 (yt 1 511 .done)))))

def T989 : Pt := (ic 0 208 208 (nc 0 255 208 (nc 0 511 208 (fk 209 1 T988 (yt 1 511 .done)))))

def T990 : Pt := (ic 0 207 207 (nc 0 255 207 (nc 0 511 207 (fk 208 1 T989 (yt 1 511 .done)))))

def T991 : Pt := (ic 0 206 206 (nc 0 255 206 (nc 0 511 206 (fk 207 1 T990 (yt 1 511 .done)))))

def T992 : Pt := (ic 0 205 205 (nc 0 255 205 (nc 0 511 205 (fk 206 1 T991 (yt 1 511 .done)))))

def T993 : Pt := (ic 0 204 204 (nc 0 255 204 (nc 0 511 204 (fk 205 1 T992 (yt 1 511 .done)))))

def T994 : Pt := (ic 0 203 203 (nc 0 255 203 (nc 0 511 203 (fk 204 1 T993 (yt 1 511 .done)))))

def T995 : Pt := (ic 0 202 202 (nc 0 255 202 (nc 0 511 202 (fk 203 1 T994 (yt 1 511 .done)))))

def T996 : Pt := (ic 0 201 201 (nc 0 255 201 (nc 0 511 201 (fk 202 1 T995 (yt 1 511 .done)))))

def T997 : Pt := (ic 0 200 200 (nc 0 255 200 (nc 0 511 200 (fk 201 1 T996 (yt 1 511 .done)))))

def T998 : Pt := (ic 0 199 199 (nc 0 255 199 (nc 0 511 199 (fk 200 1 T997 (yt 1 511 .done)))))

def T999 : Pt := (ic 0 198 198 (nc 0 255 198 (nc 0 511 198 (fk 199 1 T998 (yt 1 511 .done)))))

def T1000 : Pt := (ic 0 197 197 (nc 0 255 197 (nc 0 511 197 (fk 198 1 T999 (yt 1 511 .done)))))

def T1001 : Pt := (ic 0 196 196 (nc 0 255 196 (nc 0 511 196 (fk 197 1 T1000 (yt 1 511 .done)))))

def T1002 : Pt := (ic 0 195 195 (nc 0 255 195 (nc 0 511 195 (fk 196 1 T1001 (yt 1 511 .done)))))

def T1003 : Pt := (ic 0 194 194 (nc 0 255 194 (nc 0 511 194 (fk 195 1 T1002 (yt 1 511 .done)))))

def T1004 : Pt := (ic 0 193 193 (nc 0 255 193 (nc 0 511 193 (fk 194 1 T1003 (yt 1 511 .done)))))

def T1005 : Pt := (ic 0 192 192 (nc 0 255 192 (nc 0 511 192 (fk 193 1 T1004 (yt 1 511 .done)))))

def T1006 : Pt := (ic 0 191 191 (nc 0 255 191 (nc 0 511 191 (fk 192 1 T1005 (yt 1 511 .done)))))

def T1007 : Pt := (ic 0 190 190 (nc 0 255 190 (nc 0 511 190 (fk 191 1 T1006 (yt 1 511 .done)))))

def T1008 : Pt := (ic 0 189 189 (nc 0 255 189 (nc 0 511 189 (fk 190 1 T1007 (yt 1 511 .done)))))

def T1009 : Pt := (ic 0 188 188 (nc 0 255 188 (nc 0 511 188 (fk 189 1 T1008 (yt 1 511 .done)))))

def T1010 : Pt := (ic 0 187 187 (nc 0 255 187 (nc 0 511 187 (fk 188 1 T1009 (yt 1 511 .done)))))

def T1011 : Pt := (ic 0 186 186 (nc 0 255 186 (nc 0 511 186 (fk 187 1 T1010 (yt 1 511 .done)))))

def T1012 : Pt := (ic 0 185 185 (nc 0 255 185 (nc 0 511 185 (fk 186 1 T1011 (yt 1 511 .done)))))

def T1013 : Pt := (ic 0 184 184 (nc 0 255 184 (nc 0 511 184 (fk 185 1 T1012 (yt 1 511 .done)))))

def T1014 : Pt := (ic 0 183 183 (nc 0 255 183 (nc 0 511 183 (fk 184 1 T1013 (yt 1 511 .done)))))

def T1015 : Pt := (ic 0 182 182 (nc 0 255 182 (nc 0 511 182 (fk 183 1 T1014 (yt 1 511 .done)))))

def T1016 : Pt := (ic 0 181 181 (nc 0 255 181 (nc 0 511 181 (fk 182 1 T1015 (yt 1 511 .done)))))

def T1017 : Pt := (ic 0 180 180 (nc 0 255 180 (nc 0 511 180 (fk 181 1 T1016 (yt 1 511 .done)))))

def T1018 : Pt := (ic 0 179 179 (nc 0 255 179 (nc 0 511 179 (fk 180 1 T1017 (yt 1 511 .done)))))

def T1019 : Pt := (ic 0 178 178 (nc 0 255 178 (nc 0 511 178 (fk 179 1 T1018 (yt 1 511 .done)))))

def T1020 : Pt := (ic 0 177 177 (nc 0 255 177 (nc 0 511 177 (fk 178 1 T1019 (yt 1 511 .done)))))

def T1021 : Pt := (ic 0 176 176 (nc 0 255 176 (nc 0 511 176 (fk 177 1 T1020 (yt 1 511 .done)))))

def T1022 : Pt := (ic 0 175 175 (nc 0 255 175 (nc 0 511 175 (fk 176 1 T1021 (yt 1 511 .done)))))

def T1023 : Pt := (ic 0 174 174 (nc 0 255 174 (nc 0 511 174 (fk 175 1 T1022 (yt 1 511 .done)))))

def T1024 : Pt := (ic 0 173 173 (nc 0 255 173 (nc 0 511 173 (fk 174 1 T1023 (yt 1 511 .done)))))

def T1025 : Pt := (ic 0 172 172 (nc 0 255 172 (nc 0 511 172 (fk 173 1 T1024 (yt 1 511 .done)))))

def T1026 : Pt := (ic 0 171 171 (nc 0 255 171 (nc 0 511 171 (fk 172 1 T1025 (yt 1 511 .done)))))

def T1027 : Pt := (ic 0 170 170 (nc 0 255 170 (nc 0 511 170 (fk 171 1 T1026 (yt 1 511 .done)))))

def T1028 : Pt := (ic 0 169 169 (nc 0 255 169 (nc 0 511 169 (fk 170 1 T1027 (yt 1 511 .done)))))

def T1029 : Pt := (ic 0 168 168 (nc 0 255 168 (nc 0 511 168 (fk 169 1 T1028 (yt 1 511 .done)))))

def T1030 : Pt := (ic 0 167 167 (nc 0 255 167 (nc 0 511 167 (fk 168 1 T1029 (yt 1 511 .done)))))

def T1031 : Pt := (ic 0 166 166 (nc 0 255 166 (nc 0 511 166 (fk 167 1 T1030 (yt 1 511 .done)))))

def T1032 : Pt := (ic 0 165 165 (nc 0 255 165 (nc 0 511 165 (fk 166 1 T1031 (yt 1 511 .done)))))

def T1033 : Pt := (ic 0 164 164 (nc 0 255 164 (nc 0 511 164 (fk 165 1 T1032 (yt 1 511 .done)))))

def T1034 : Pt := (ic 0 163 163 (nc 0 255 163 (nc 0 511 163 (fk 164 1 T1033 (yt 1 511 .done)))))

def T1035 : Pt := (ic 0 162 162 (nc 0 255 162 (nc 0 511 162 (fk 163 1 T1034 (yt 1 511 .done)))))

def T1036 : Pt := (ic 0 161 161 (nc 0 255 161 (nc 0 511 161 (fk 162 1 T1035 (yt 1 511 .done)))))

def T1037 : Pt := (ic 0 160 160 (nc 0 255 160 (nc 0 511 160 (fk 161 1 T1036 (yt 1 511 .done)))))

def T1038 : Pt := (ic 0 159 159 (nc 0 255 159 (nc 0 511 159 (fk 160 1 T1037 (yt 1 511 .done)))))

def T1039 : Pt := (ic 0 158 158 (nc 0 255 158 (nc 0 511 158 (fk 159 1 T1038 (yt 1 511 .done)))))

def T1040 : Pt := (ic 0 157 157 (nc 0 255 157 (nc 0 511 157 (fk 158 1 T1039 (yt 1 511 .done)))))

def T1041 : Pt := (ic 0 156 156 (nc 0 255 156 (nc 0 511 156 (fk 157 1 T1040 (yt 1 511 .done)))))

def T1042 : Pt := (ic 0 155 155 (nc 0 255 155 (nc 0 511 155 (fk 156 1 T1041 (yt 1 511 .done)))))

def T1043 : Pt := (ic 0 154 154 (nc 0 255 154 (nc 0 511 154 (fk 155 1 T1042 (yt 1 511 .done)))))

def T1044 : Pt := (ic 0 153 153 (nc 0 255 153 (nc 0 511 153 (fk 154 1 T1043 (yt 1 511 .done)))))

def T1045 : Pt := (ic 0 152 152 (nc 0 255 152 (nc 0 511 152 (fk 153 1 T1044 (yt 1 511 .done)))))

def T1046 : Pt := (ic 0 151 151 (nc 0 255 151 (nc 0 511 151 (fk 152 1 T1045 (yt 1 511 .done)))))

def T1047 : Pt := (ic 0 150 150 (nc 0 255 150 (nc 0 511 150 (fk 151 1 T1046 (yt 1 511 .done)))))

def T1048 : Pt := (ic 0 149 149 (nc 0 255 149 (nc 0 511 149 (fk 150 1 T1047 (yt 1 511 .done)))))

def T1049 : Pt := (ic 0 148 148 (nc 0 255 148 (nc 0 511 148 (fk 149 1 T1048 (yt 1 511 .done)))))

def T1050 : Pt := (ic 0 147 147 (nc 0 255 147 (nc 0 511 147 (fk 148 1 T1049 (yt 1 511 .done)))))

def T1051 : Pt := (ic 0 146 146 (nc 0 255 146 (nc 0 511 146 (fk 147 1 T1050 (yt 1 511 .done)))))

def T1052 : Pt := (ic 0 145 145 (nc 0 255 145 (nc 0 511 145 (fk 146 1 T1051 (yt 1 511 .done)))))

def T1053 : Pt := (ic 0 144 144 (nc 0 255 144 (nc 0 511 144 (fk 145 1 T1052 (yt 1 511 .done)))))

def T1054 : Pt := (ic 0 143 143 (nc 0 255 143 (nc 0 511 143 (fk 144 1 T1053 (yt 1 511 .done)))))

def T1055 : Pt := (ic 0 142 142 (nc 0 255 142 (nc 0 511 142 (fk 143 1 T1054 (yt 1 511 .done)))))

def T1056 : Pt := (ic 0 141 141 (nc 0 255 141 (nc 0 511 141 (fk 142 1 T1055 (yt 1 511 .done)))))

def T1057 : Pt := (ic 0 140 140 (nc 0 255 140 (nc 0 511 140 (fk 141 1 T1056 (yt 1 511 .done)))))

def T1058 : Pt := (ic 0 139 139 (nc 0 255 139 (nc 0 511 139 (fk 140 1 T1057 (yt 1 511 .done)))))

def T1059 : Pt := (ic 0 138 138 (nc 0 255 138 (nc 0 511 138 (fk 139 1 T1058 (yt 1 511 .done)))))

def T1060 : Pt := (ic 0 137 137 (nc 0 255 137 (nc 0 511 137 (fk 138 1 T1059 (yt 1 511 .done)))))

def T1061 : Pt := (ic 0 136 136 (nc 0 255 136 (nc 0 511 136 (fk 137 1 T1060 (yt 1 511 .done)))))

def T1062 : Pt := (ic 0 135 135 (nc 0 255 135 (nc 0 511 135 (fk 136 1 T1061 (yt 1 511 .done)))))

def T1063 : Pt := (ic 0 134 134 (nc 0 255 134 (nc 0 511 134 (fk 135 1 T1062 (yt 1 511 .done)))))

def T1064 : Pt := (ic 0 133 133 (nc 0 255 133 (nc 0 511 133 (fk 134 1 T1063 (yt 1 511 .done)))))

def T1065 : Pt := (ic 0 132 132 (nc 0 255 132 (nc 0 511 132 (fk 133 1 T1064 (yt 1 511 .done)))))

def T1066 : Pt := (ic 0 131 131 (nc 0 255 131 (nc 0 511 131 (fk 132 1 T1065 (yt 1 511 .done)))))

def T1067 : Pt := (ic 0 130 130 (nc 0 255 130 (nc 0 511 130 (fk 131 1 T1066 (yt 1 511 .done)))))

def T1068 : Pt := (ic 0 129 129 (nc 0 255 129 (nc 0 511 129 (fk 130 1 T1067 (yt 1 511 .done)))))

def T1069 : Pt := (ic 0 128 128 (nc 0 255 128 (nc 0 511 128 (fk 129 1 T1068 (yt 1 511 .done)))))

def T1070 : Pt := (ic 0 127 127 (.yes (.le (.a 0 (127)) (.c 127)) (nc 0 255 127 (nc 0 511 127 (fk 128 1 T1069 (yt 1 511 .done))))))

def T1071 : Pt := (ic 0 126 126 (nc 0 127 126 (nc 0 255 126 (nc 0 511 126 (fk 127 1 T1070 (yt 1 511 .done))))))

def T1072 : Pt := (ic 0 125 125 (nc 0 127 125 (nc 0 255 125 (nc 0 511 125 (fk 126 1 T1071 (yt 1 511 .done))))))

def T1073 : Pt := (ic 0 124 124 (nc 0 127 124 (nc 0 255 124 (nc 0 511 124 (fk 125 1 T1072 (yt 1 511 .done))))))

def T1074 : Pt := (ic 0 123 123 (nc 0 127 123 (nc 0 255 123 (nc 0 511 123 (fk 124 1 T1073 (yt 1 511 .done))))))

def T1075 : Pt := (ic 0 122 122 (nc 0 127 122 (nc 0 255 122 (nc 0 511 122 (fk 123 1 T1074 (yt 1 511 .done))))))

def T1076 : Pt := (ic 0 121 121 (nc 0 127 121 (nc 0 255 121 (nc 0 511 121 (fk 122 1 T1075 (yt 1 511 .done))))))

def T1077 : Pt := (ic 0 120 120 (nc 0 127 120 (nc 0 255 120 (nc 0 511 120 (fk 121 1 T1076 (yt 1 511 .done))))))

def T1078 : Pt := (ic 0 119 119 (nc 0 127 119 (nc 0 255 119 (nc 0 511 119 (fk 120 1 T1077 (yt 1 511 .done))))))

def T1079 : Pt := (ic 0 118 118 (nc 0 127 118 (nc 0 255 118 (nc 0 511 118 (fk 119 1 T1078 (yt 1 511 .done))))))

def T1080 : Pt := (ic 0 117 117 (nc 0 127 117 (nc 0 255 117 (nc 0 511 117 (fk 118 1 T1079 (yt 1 511 .done))))))

def T1081 : Pt := (ic 0 116 116 (nc 0 127 116 (nc 0 255 116 (nc 0 511 116 (fk 117 1 T1080 (yt 1 511 .done))))))

def T1082 : Pt := (ic 0 115 115 (nc 0 127 115 (nc 0 255 115 (nc 0 511 115 (fk 116 1 T1081 (yt 1 511 .done))))))

def T1083 : Pt := (ic 0 114 114 (nc 0 127 114 (nc 0 255 114 (nc 0 511 114 (fk 115 1 T1082 (yt 1 511 .done))))))

def T1084 : Pt := (ic 0 113 113 (nc 0 127 113 (nc 0 255 113 (nc 0 511 113 (fk 114 1 T1083 (yt 1 511 .done))))))

def T1085 : Pt := (ic 0 112 112 (nc 0 127 112 (nc 0 255 112 (nc 0 511 112 (fk 113 1 T1084 (yt 1 511 .done))))))

def T1086 : Pt := (ic 0 111 111 (nc 0 127 111 (nc 0 255 111 (nc 0 511 111 (fk 112 1 T1085 (yt 1 511 .done))))))

def T1087 : Pt := (ic 0 110 110 (nc 0 127 110 (nc 0 255 110 (nc 0 511 110 (fk 111 1 T1086 (yt 1 511 .done))))))

def T1088 : Pt := (ic 0 109 109 (nc 0 127 109 (nc 0 255 109 (nc 0 511 109 (fk 110 1 T1087 (yt 1 511 .done))))))

def T1089 : Pt := (ic 0 108 108 (nc 0 127 108 (nc 0 255 108 (nc 0 511 108 (fk 109 1 T1088 (yt 1 511 .done))))))

def T1090 : Pt := (ic 0 107 107 (nc 0 127 107 (nc 0 255 107 (nc 0 511 107 (fk 108 1 T1089 (yt 1 511 .done))))))

def T1091 : Pt := (ic 0 106 106 (nc 0 127 106 (nc 0 255 106 (nc 0 511 106 (fk 107 1 T1090 (yt 1 511 .done))))))

def T1092 : Pt := (ic 0 105 105 (nc 0 127 105 (nc 0 255 105 (nc 0 511 105 (fk 106 1 T1091 (yt 1 511 .done))))))

def T1093 : Pt := (ic 0 104 104 (nc 0 127 104 (nc 0 255 104 (nc 0 511 104 (fk 105 1 T1092 (yt 1 511 .done))))))

def T1094 : Pt := (ic 0 103 103 (nc 0 127 103 (nc 0 255 103 (nc 0 511 103 (fk 104 1 T1093 (yt 1 511 .done))))))

def T1095 : Pt := (ic 0 102 102 (nc 0 127 102 (nc 0 255 102 (nc 0 511 102 (fk 103 1 T1094 (yt 1 511 .done))))))

def T1096 : Pt := (ic 0 101 101 (nc 0 127 101 (nc 0 255 101 (nc 0 511 101 (fk 102 1 T1095 (yt 1 511 .done))))))

def T1097 : Pt := (ic 0 100 100 (nc 0 127 100 (nc 0 255 100 (nc 0 511 100 (fk 101 1 T1096 (yt 1 511 .done))))))

def T1098 : Pt := (ic 0 99 99 (nc 0 127 99 (nc 0 255 99 (nc 0 511 99 (fk 100 1 T1097 (yt 1 511 .done))))))

def T1099 : Pt := (ic 0 98 98 (nc 0 127 98 (nc 0 255 98 (nc 0 511 98 (fk 99 1 T1098 (yt 1 511 .done))))))

def T1100 : Pt := (ic 0 97 97 (nc 0 127 97 (nc 0 255 97 (nc 0 511 97 (fk 98 1 T1099 (yt 1 511 .done))))))

def T1101 : Pt := (ic 0 96 96 (nc 0 127 96 (nc 0 255 96 (nc 0 511 96 (fk 97 1 T1100 (yt 1 511 .done))))))

def T1102 : Pt := (ic 0 95 95 (nc 0 127 95 (nc 0 255 95 (nc 0 511 95 (fk 96 1 T1101 (yt 1 511 .done))))))

def T1103 : Pt := (ic 0 94 94 (nc 0 127 94 (nc 0 255 94 (nc 0 511 94 (fk 95 1 T1102 (yt 1 511 .done))))))

def T1104 : Pt := (ic 0 93 93 (nc 0 127 93 (nc 0 255 93 (nc 0 511 93 (fk 94 1 T1103 (yt 1 511 .done))))))

def T1105 : Pt := (ic 0 92 92 (nc 0 127 92 (nc 0 255 92 (nc 0 511 92 (fk 93 1 T1104 (yt 1 511 .done))))))

def T1106 : Pt := (ic 0 91 91 (nc 0 127 91 (nc 0 255 91 (nc 0 511 91 (fk 92 1 T1105 (yt 1 511 .done))))))

def T1107 : Pt := (ic 0 90 90 (nc 0 127 90 (nc 0 255 90 (nc 0 511 90 (fk 91 1 T1106 (yt 1 511 .done))))))

def T1108 : Pt := (ic 0 89 89 (nc 0 127 89 (nc 0 255 89 (nc 0 511 89 (fk 90 1 T1107 (yt 1 511 .done))))))

def T1109 : Pt := (ic 0 88 88 (nc 0 127 88 (nc 0 255 88 (nc 0 511 88 (fk 89 1 T1108 (yt 1 511 .done))))))

def T1110 : Pt := (ic 0 87 87 (nc 0 127 87 (nc 0 255 87 (nc 0 511 87 (fk 88 1 T1109 (yt 1 511 .done))))))

def T1111 : Pt := (ic 0 86 86 (nc 0 127 86 (nc 0 255 86 (nc 0 511 86 (fk 87 1 T1110 (yt 1 511 .done))))))

def T1112 : Pt := (ic 0 85 85 (nc 0 127 85 (nc 0 255 85 (nc 0 511 85 (fk 86 1 T1111 (yt 1 511 .done))))))

def T1113 : Pt := (ic 0 84 84 (nc 0 127 84 (nc 0 255 84 (nc 0 511 84 (fk 85 1 T1112 (yt 1 511 .done))))))

def T1114 : Pt := (ic 0 83 83 (nc 0 127 83 (nc 0 255 83 (nc 0 511 83 (fk 84 1 T1113 (yt 1 511 .done))))))

def T1115 : Pt := (ic 0 82 82 (nc 0 127 82 (nc 0 255 82 (nc 0 511 82 (fk 83 1 T1114 (yt 1 511 .done))))))

def T1116 : Pt := (ic 0 81 81 (nc 0 127 81 (nc 0 255 81 (nc 0 511 81 (fk 82 1 T1115 (yt 1 511 .done))))))

def T1117 : Pt := (ic 0 80 80 (nc 0 127 80 (nc 0 255 80 (nc 0 511 80 (fk 81 1 T1116 (yt 1 511 .done))))))

def T1118 : Pt := (ic 0 79 79 (nc 0 127 79 (nc 0 255 79 (nc 0 511 79 (fk 80 1 T1117 (yt 1 511 .done))))))

def T1119 : Pt := (ic 0 78 78 (nc 0 127 78 (nc 0 255 78 (nc 0 511 78 (fk 79 1 T1118 (yt 1 511 .done))))))

def T1120 : Pt := (ic 0 77 77 (nc 0 127 77 (nc 0 255 77 (nc 0 511 77 (fk 78 1 T1119 (yt 1 511 .done))))))

def T1121 : Pt := (ic 0 76 76 (nc 0 127 76 (nc 0 255 76 (nc 0 511 76 (fk 77 1 T1120 (yt 1 511 .done))))))

def T1122 : Pt := (ic 0 75 75 (nc 0 127 75 (nc 0 255 75 (nc 0 511 75 (fk 76 1 T1121 (yt 1 511 .done))))))

def T1123 : Pt := (ic 0 74 74 (nc 0 127 74 (nc 0 255 74 (nc 0 511 74 (fk 75 1 T1122 (yt 1 511 .done))))))

def T1124 : Pt := (ic 0 73 73 (nc 0 127 73 (nc 0 255 73 (nc 0 511 73 (fk 74 1 T1123 (yt 1 511 .done))))))

def T1125 : Pt := (ic 0 72 72 (nc 0 127 72 (nc 0 255 72 (nc 0 511 72 (fk 73 1 T1124 (yt 1 511 .done))))))

def T1126 : Pt := (ic 0 71 71 (nc 0 127 71 (nc 0 255 71 (nc 0 511 71 (fk 72 1 T1125 (yt 1 511 .done))))))

def T1127 : Pt := (ic 0 70 70 (nc 0 127 70 (nc 0 255 70 (nc 0 511 70 (fk 71 1 T1126 (yt 1 511 .done))))))

def T1128 : Pt := (ic 0 69 69 (nc 0 127 69 (nc 0 255 69 (nc 0 511 69 (fk 70 1 T1127 (yt 1 511 .done))))))

def T1129 : Pt := (ic 0 68 68 (nc 0 127 68 (nc 0 255 68 (nc 0 511 68 (fk 69 1 T1128 (yt 1 511 .done))))))

def T1130 : Pt := (ic 0 67 67 (nc 0 127 67 (nc 0 255 67 (nc 0 511 67 (fk 68 1 T1129 (yt 1 511 .done))))))

def T1131 : Pt := (ic 0 66 66 (nc 0 127 66 (nc 0 255 66 (nc 0 511 66 (fk 67 1 T1130 (yt 1 511 .done))))))

def T1132 : Pt := (ic 0 65 65 (nc 0 127 65 (nc 0 255 65 (nc 0 511 65 (fk 66 1 T1131 (yt 1 511 .done))))))

def T1133 : Pt := (ic 0 64 64 (nc 0 127 64 (nc 0 255 64 (nc 0 511 64 (fk 65 1 T1132 (yt 1 511 .done))))))

def T1134 : Pt := (ic 0 63 63 (.yes (.le (.a 0 (63)) (.c 63)) (nc 0 127 63 (nc 0 255 63 (nc 0 511 63 (fk 64 1 T1133 (yt 1 511 .done)))))))

def T1135 : Pt := (ic 0 62 62 (nc 0 63 62 (nc 0 127 62 (nc 0 255 62 (nc 0 511 62 (fk 63 1 T1134 (yt 1 511 .done)))))))

def T1136 : Pt := (ic 0 61 61 (nc 0 63 61 (nc 0 127 61 (nc 0 255 61 (nc 0 511 61 (fk 62 1 T1135 (yt 1 511 .done)))))))

def T1137 : Pt := (ic 0 60 60 (nc 0 63 60 (nc 0 127 60 (nc 0 255 60 (nc 0 511 60 (fk 61 1 T1136 (yt 1 511 .done)))))))

def T1138 : Pt := (ic 0 59 59 (nc 0 63 59 (nc 0 127 59 (nc 0 255 59 (nc 0 511 59 (fk 60 1 T1137 (yt 1 511 .done)))))))

def T1139 : Pt := (ic 0 58 58 (nc 0 63 58 (nc 0 127 58 (nc 0 255 58 (nc 0 511 58 (fk 59 1 T1138 (yt 1 511 .done)))))))

def T1140 : Pt := (ic 0 57 57 (nc 0 63 57 (nc 0 127 57 (nc 0 255 57 (nc 0 511 57 (fk 58 1 T1139 (yt 1 511 .done)))))))

def T1141 : Pt := (ic 0 56 56 (nc 0 63 56 (nc 0 127 56 (nc 0 255 56 (nc 0 511 56 (fk 57 1 T1140 (yt 1 511 .done)))))))

def T1142 : Pt := (ic 0 55 55 (nc 0 63 55 (nc 0 127 55 (nc 0 255 55 (nc 0 511 55 (fk 56 1 T1141 (yt 1 511 .done)))))))

def T1143 : Pt := (ic 0 54 54 (nc 0 63 54 (nc 0 127 54 (nc 0 255 54 (nc 0 511 54 (fk 55 1 T1142 (yt 1 511 .done)))))))

def T1144 : Pt := (ic 0 53 53 (nc 0 63 53 (nc 0 127 53 (nc 0 255 53 (nc 0 511 53 (fk 54 1 T1143 (yt 1 511 .done)))))))

def T1145 : Pt := (ic 0 52 52 (nc 0 63 52 (nc 0 127 52 (nc 0 255 52 (nc 0 511 52 (fk 53 1 T1144 (yt 1 511 .done)))))))

def T1146 : Pt := (ic 0 51 51 (nc 0 63 51 (nc 0 127 51 (nc 0 255 51 (nc 0 511 51 (fk 52 1 T1145 (yt 1 511 .done)))))))

def T1147 : Pt := (ic 0 50 50 (nc 0 63 50 (nc 0 127 50 (nc 0 255 50 (nc 0 511 50 (fk 51 1 T1146 (yt 1 511 .done)))))))

def T1148 : Pt := (ic 0 49 49 (nc 0 63 49 (nc 0 127 49 (nc 0 255 49 (nc 0 511 49 (fk 50 1 T1147 (yt 1 511 .done)))))))

def T1149 : Pt := (ic 0 48 48 (nc 0 63 48 (nc 0 127 48 (nc 0 255 48 (nc 0 511 48 (fk 49 1 T1148 (yt 1 511 .done)))))))

def T1150 : Pt := (ic 0 47 47 (nc 0 63 47 (nc 0 127 47 (nc 0 255 47 (nc 0 511 47 (fk 48 1 T1149 (yt 1 511 .done)))))))

def T1151 : Pt := (ic 0 46 46 (nc 0 63 46 (nc 0 127 46 (nc 0 255 46 (nc 0 511 46 (fk 47 1 T1150 (yt 1 511 .done)))))))

def T1152 : Pt := (ic 0 45 45 (nc 0 63 45 (nc 0 127 45 (nc 0 255 45 (nc 0 511 45 (fk 46 1 T1151 (yt 1 511 .done)))))))

def T1153 : Pt := (ic 0 44 44 (nc 0 63 44 (nc 0 127 44 (nc 0 255 44 (nc 0 511 44 (fk 45 1 T1152 (yt 1 511 .done)))))))

def T1154 : Pt := (ic 0 43 43 (nc 0 63 43 (nc 0 127 43 (nc 0 255 43 (nc 0 511 43 (fk 44 1 T1153 (yt 1 511 .done)))))))

def T1155 : Pt := (ic 0 42 42 (nc 0 63 42 (nc 0 127 42 (nc 0 255 42 (nc 0 511 42 (fk 43 1 T1154 (yt 1 511 .done)))))))

def T1156 : Pt := (ic 0 41 41 (nc 0 63 41 (nc 0 127 41 (nc 0 255 41 (nc 0 511 41 (fk 42 1 T1155 (yt 1 511 .done)))))))

def T1157 : Pt := (ic 0 40 40 (nc 0 63 40 (nc 0 127 40 (nc 0 255 40 (nc 0 511 40 (fk 41 1 T1156 (yt 1 511 .done)))))))

def T1158 : Pt := (ic 0 39 39 (nc 0 63 39 (nc 0 127 39 (nc 0 255 39 (nc 0 511 39 (fk 40 1 T1157 (yt 1 511 .done)))))))

def T1159 : Pt := (ic 0 38 38 (nc 0 63 38 (nc 0 127 38 (nc 0 255 38 (nc 0 511 38 (fk 39 1 T1158 (yt 1 511 .done)))))))

def T1160 : Pt := (ic 0 37 37 (nc 0 63 37 (nc 0 127 37 (nc 0 255 37 (nc 0 511 37 (fk 38 1 T1159 (yt 1 511 .done)))))))

def T1161 : Pt := (ic 0 36 36 (nc 0 63 36 (nc 0 127 36 (nc 0 255 36 (nc 0 511 36 (fk 37 1 T1160 (yt 1 511 .done)))))))

def T1162 : Pt := (ic 0 35 35 (nc 0 63 35 (nc 0 127 35 (nc 0 255 35 (nc 0 511 35 (fk 36 1 T1161 (yt 1 511 .done)))))))

def T1163 : Pt := (ic 0 34 34 (nc 0 63 34 (nc 0 127 34 (nc 0 255 34 (nc 0 511 34 (fk 35 1 T1162 (yt 1 511 .done)))))))

def T1164 : Pt := (ic 0 33 33 (nc 0 63 33 (nc 0 127 33 (nc 0 255 33 (nc 0 511 33 (fk 34 1 T1163 (yt 1 511 .done)))))))

def T1165 : Pt := (ic 0 32 32 (nc 0 63 32 (nc 0 127 32 (nc 0 255 32 (nc 0 511 32 (fk 33 1 T1164 (yt 1 511 .done)))))))

def T1166 : Pt := (ic 0 31 31 (.yes (.le (.a 0 (31)) (.c 31)) (nc 0 63 31 (nc 0 127 31 (nc 0 255 31 (nc 0 511 31 (fk 32 1 T1165 (yt 1 511 .done))))))))

def T1167 : Pt := (ic 0 30 30 (nc 0 31 30 (nc 0 63 30 (nc 0 127 30 (nc 0 255 30 (nc 0 511 30 (fk 31 1 T1166 (yt 1 511 .done))))))))

def T1168 : Pt := (ic 0 29 29 (nc 0 31 29 (nc 0 63 29 (nc 0 127 29 (nc 0 255 29 (nc 0 511 29 (fk 30 1 T1167 (yt 1 511 .done))))))))

def T1169 : Pt := (ic 0 28 28 (nc 0 31 28 (nc 0 63 28 (nc 0 127 28 (nc 0 255 28 (nc 0 511 28 (fk 29 1 T1168 (yt 1 511 .done))))))))

end Go.Proofs.Ytfkbofbdonmpfaa.pmpTells
