/- NearWaits: what its run asks, and that it holds. -/
import Derived.Test.YthmnfjaogoennaaSy11
set_option linter.unusedSimpArgs false
set_option linter.unusedVariables false
set_option linter.unusedSectionVars false
set_option linter.unnecessarySimpa false
namespace Go.Proofs.Ythmnfjaogoennaa.nearWaits
open Go.Am

def T0 : Pt := (.fork (.lt (.c 15) (.v 0)) (.fork (.lt (.c 16) (.v 0)) (.fork (.lt (.c 17) (.v 0)) (.fork (.lt (.c 18) (.v 0)) (.fork (.lt (.c 19) (.v 0)) .done .done) .done) .done) .done) .done)
def T1 : Pt := (.fork (.lt (.c 14) (.v 0)) T0 .done)
def T2 : Pt := (.fork (.lt (.c 13) (.v 0)) T1 .done)
def T3 : Pt := (.fork (.lt (.c 12) (.v 0)) T2 .done)
def T4 : Pt := (.fork (.lt (.c 11) (.v 0)) T3 .done)
def T5 : Pt := (.fork (.lt (.c 10) (.v 0)) T4 .done)
def T6 : Pt := (.fork (.lt (.c 9) (.v 0)) T5 .done)
def T7 : Pt := (.fork (.lt (.c 8) (.v 0)) T6 .done)
def T8 : Pt := (.fork (.lt (.c 7) (.v 0)) T7 .done)
def T9 : Pt := (.fork (.lt (.c 6) (.v 0)) T8 .done)
def T10 : Pt := (.fork (.lt (.c 5) (.v 0)) T9 .done)
def T11 : Pt := (.fork (.lt (.c 4) (.v 0)) T10 (.yes (.eq (.c 4) (.v 0)) .done))
def T12 : Pt := (.fork (.lt (.c 3) (.v 0)) T11 (.no (.lt (.c 4) (.v 0)) (.yes (.eq (.c 3) (.v 0)) .done)))
def T13 : Pt := (.fork (.lt (.c 2) (.v 0)) T12 (.no (.lt (.c 4) (.v 0)) (.yes (.eq (.c 2) (.v 0)) .done)))
def T14 : Pt := (.yes (.lt (.c 0) (.v 0)) (.fork (.lt (.c 1) (.v 0)) T13 (.no (.lt (.c 4) (.v 0)) (.yes (.eq (.c 1) (.v 0)) .done))))
def T15 : Pt := (.fork (.lt (.c 20) (.v 0)) .done T14)
def T16 : Pt := (.fork (.lt (.v 0) (.c 1)) .done T15)

theorem o0 (a0 : Int) (h0 : (-9223372036854775808) ≤ a0) (h1 : a0 ≤ 9223372036854775807) (h2 : ¬ a0 < (1 : Int)) (h3 : ¬ (20 : Int) < a0) : (0 : Int) < a0 := by omega
theorem o1 (a0 : Int) (h0 : (-9223372036854775808) ≤ a0) (h1 : a0 ≤ 9223372036854775807) (h2 : (3 : Int) < a0) (h3 : ¬ (4 : Int) < a0) : (4 : Int) = a0 := by omega
theorem o2 (a0 : Int) (h0 : (-9223372036854775808) ≤ a0) (h1 : a0 ≤ 9223372036854775807) (h2 : (2 : Int) < a0) (h3 : ¬ (3 : Int) < a0) : ¬ (4 : Int) < a0 := by omega
theorem o3 (a0 : Int) (h0 : (-9223372036854775808) ≤ a0) (h1 : a0 ≤ 9223372036854775807) (h2 : (2 : Int) < a0) (h3 : ¬ (3 : Int) < a0) : (3 : Int) = a0 := by omega
theorem o4 (a0 : Int) (h0 : (-9223372036854775808) ≤ a0) (h1 : a0 ≤ 9223372036854775807) (h2 : (1 : Int) < a0) (h3 : ¬ (2 : Int) < a0) : ¬ (4 : Int) < a0 := by omega
theorem o5 (a0 : Int) (h0 : (-9223372036854775808) ≤ a0) (h1 : a0 ≤ 9223372036854775807) (h2 : (1 : Int) < a0) (h3 : ¬ (2 : Int) < a0) : (2 : Int) = a0 := by omega
theorem o6 (a0 : Int) (h0 : (-9223372036854775808) ≤ a0) (h1 : a0 ≤ 9223372036854775807) (h2 : ¬ a0 < (1 : Int)) (h3 : ¬ (1 : Int) < a0) : ¬ (4 : Int) < a0 := by omega
theorem o7 (a0 : Int) (h0 : (-9223372036854775808) ≤ a0) (h1 : a0 ≤ 9223372036854775807) (h2 : ¬ a0 < (1 : Int)) (h3 : ¬ (1 : Int) < a0) : (1 : Int) = a0 := by omega

theorem t0 (a0 a1 : Int) (l0 : (-9223372036854775808) ≤ a0) (u0 : a0 ≤ 9223372036854775807) (l1 : 0 ≤ a1) (u1 : a1 ≤ 255) : T16.holds [a0, a1] := by
  refine Pt.h_fork (fun (f0 : a0 < (1 : Int)) => ?_) (fun (f0 : ¬ a0 < (1 : Int)) => ?_)
  · skip
    exact Pt.h_done
  · skip
    refine Pt.h_fork (fun (f1 : (20 : Int) < a0) => ?_) (fun (f1 : ¬ (20 : Int) < a0) => ?_)
    · skip
      exact Pt.h_done
    · skip
      refine Pt.h_yes (show (0 : Int) < a0 from (o0 a0 l0 u0 f0 f1)) ?_
      refine Pt.h_fork (fun (f2 : (1 : Int) < a0) => ?_) (fun (f2 : ¬ (1 : Int) < a0) => ?_)
      · skip
        refine Pt.h_fork (fun (f3 : (2 : Int) < a0) => ?_) (fun (f3 : ¬ (2 : Int) < a0) => ?_)
        · skip
          refine Pt.h_fork (fun (f4 : (3 : Int) < a0) => ?_) (fun (f4 : ¬ (3 : Int) < a0) => ?_)
          · skip
            refine Pt.h_fork (fun (f5 : (4 : Int) < a0) => ?_) (fun (f5 : ¬ (4 : Int) < a0) => ?_)
            · skip
              refine Pt.h_fork (fun (f6 : (5 : Int) < a0) => ?_) (fun (f6 : ¬ (5 : Int) < a0) => ?_)
              · skip
                refine Pt.h_fork (fun (f7 : (6 : Int) < a0) => ?_) (fun (f7 : ¬ (6 : Int) < a0) => ?_)
                · skip
                  refine Pt.h_fork (fun (f8 : (7 : Int) < a0) => ?_) (fun (f8 : ¬ (7 : Int) < a0) => ?_)
                  · skip
                    refine Pt.h_fork (fun (f9 : (8 : Int) < a0) => ?_) (fun (f9 : ¬ (8 : Int) < a0) => ?_)
                    · skip
                      refine Pt.h_fork (fun (f10 : (9 : Int) < a0) => ?_) (fun (f10 : ¬ (9 : Int) < a0) => ?_)
                      · skip
                        refine Pt.h_fork (fun (f11 : (10 : Int) < a0) => ?_) (fun (f11 : ¬ (10 : Int) < a0) => ?_)
                        · skip
                          refine Pt.h_fork (fun (f12 : (11 : Int) < a0) => ?_) (fun (f12 : ¬ (11 : Int) < a0) => ?_)
                          · skip
                            refine Pt.h_fork (fun (f13 : (12 : Int) < a0) => ?_) (fun (f13 : ¬ (12 : Int) < a0) => ?_)
                            · skip
                              refine Pt.h_fork (fun (f14 : (13 : Int) < a0) => ?_) (fun (f14 : ¬ (13 : Int) < a0) => ?_)
                              · skip
                                refine Pt.h_fork (fun (f15 : (14 : Int) < a0) => ?_) (fun (f15 : ¬ (14 : Int) < a0) => ?_)
                                · skip
                                  refine Pt.h_fork (fun (f16 : (15 : Int) < a0) => ?_) (fun (f16 : ¬ (15 : Int) < a0) => ?_)
                                  · skip
                                    refine Pt.h_fork (fun (f17 : (16 : Int) < a0) => ?_) (fun (f17 : ¬ (16 : Int) < a0) => ?_)
                                    · skip
                                      refine Pt.h_fork (fun (f18 : (17 : Int) < a0) => ?_) (fun (f18 : ¬ (17 : Int) < a0) => ?_)
                                      · skip
                                        refine Pt.h_fork (fun (f19 : (18 : Int) < a0) => ?_) (fun (f19 : ¬ (18 : Int) < a0) => ?_)
                                        · skip
                                          refine Pt.h_fork (fun (f20 : (19 : Int) < a0) => ?_) (fun (f20 : ¬ (19 : Int) < a0) => ?_)
                                          · skip
                                            exact Pt.h_done
                                          · skip
                                            exact Pt.h_done
                                        · skip
                                          exact Pt.h_done
                                      · skip
                                        exact Pt.h_done
                                    · skip
                                      exact Pt.h_done
                                  · skip
                                    exact Pt.h_done
                                · skip
                                  exact Pt.h_done
                              · skip
                                exact Pt.h_done
                            · skip
                              exact Pt.h_done
                          · skip
                            exact Pt.h_done
                        · skip
                          exact Pt.h_done
                      · skip
                        exact Pt.h_done
                    · skip
                      exact Pt.h_done
                  · skip
                    exact Pt.h_done
                · skip
                  exact Pt.h_done
              · skip
                exact Pt.h_done
            · skip
              refine Pt.h_yes (show (4 : Int) = a0 from (o1 a0 l0 u0 f4 f5)) ?_
              exact Pt.h_done
          · skip
            refine Pt.h_no (show ¬ (4 : Int) < a0 from (o2 a0 l0 u0 f3 f4)) ?_
            refine Pt.h_yes (show (3 : Int) = a0 from (o3 a0 l0 u0 f3 f4)) ?_
            exact Pt.h_done
        · skip
          refine Pt.h_no (show ¬ (4 : Int) < a0 from (o4 a0 l0 u0 f2 f3)) ?_
          refine Pt.h_yes (show (2 : Int) = a0 from (o5 a0 l0 u0 f2 f3)) ?_
          exact Pt.h_done
      · skip
        refine Pt.h_no (show ¬ (4 : Int) < a0 from (o6 a0 l0 u0 f0 f2)) ?_
        refine Pt.h_yes (show (1 : Int) = a0 from (o7 a0 l0 u0 f0 f2)) ?_
        exact Pt.h_done

end Go.Proofs.Ythmnfjaogoennaa.nearWaits
