/- PortsGone: what its runs ask, and that it holds. -/
import Derived.Test.YtfkbofbdonmpfaaM3
import Derived.KernelRfl
set_option linter.unusedSimpArgs false
set_option linter.unusedVariables false
set_option linter.unusedSectionVars false
set_option linter.unnecessarySimpa false
namespace Go.Proofs.Ytfkbofbdonmpfaa.portsGone
open Go.Am

def loT0 : Pt := (.yes (.lt (.v 0) (.c 0)) .done)

def loR0 : Pt := (.yes (.lt (.v 0) (.c 0)) .done)

theorem lot0 (a0 a1 a2 : Int) (l0 : (-9223372036854775808 : Int) ≤ a0) (u0 : a0 ≤ (9223372036854775807 : Int)) (l1 : (-9223372036854775808 : Int) ≤ a1) (u1 : a1 ≤ (9223372036854775807 : Int)) (l2 : (-9223372036854775808 : Int) ≤ a2) (u2 : a2 ≤ (9223372036854775807 : Int)) (g0 : a0 < (0 : Int)) : loR0.holds [a0, a1, a2] := by
  refine Pt.h_yes (show a0 < (0 : Int) from g0) ?_
  exact Pt.h_done

theorem lorest : auto loT0 [(-9223372036854775808, 9223372036854775807), (-9223372036854775808, 9223372036854775807), (-9223372036854775808, 9223372036854775807)] = loR0 := by kernel_rfl
theorem loall (a0 a1 a2 : Int) (l0 : (-9223372036854775808 : Int) ≤ a0) (u0 : a0 ≤ (9223372036854775807 : Int)) (l1 : (-9223372036854775808 : Int) ≤ a1) (u1 : a1 ≤ (9223372036854775807 : Int)) (l2 : (-9223372036854775808 : Int) ≤ a2) (u2 : a2 ≤ (9223372036854775807 : Int)) (g0 : a0 < (0 : Int)) : loT0.holds [a0, a1, a2] :=
  holds_auto lorest (fits_cons l0 u0 (fits_cons l1 u1 (fits_cons l2 u2 fits_nil))) (lot0 a0 a1 a2 l0 u0 l1 u1 l2 u2 g0)

def hiT0 : Pt := (.no (.lt (.v 0) (.c 0)) (.yes (.lt (.c 30) (.v 0)) .done))

def hiR0 : Pt := (.no (.lt (.v 0) (.c 0)) (.yes (.lt (.c 30) (.v 0)) .done))

theorem hio0 (a0 : Int) (h0 : (-9223372036854775808 : Int) ≤ a0) (h1 : a0 ≤ (9223372036854775807 : Int)) (h2 : (30 : Int) < a0) : ¬ a0 < (0 : Int) := by omega

theorem hit0 (a0 a1 a2 : Int) (l0 : (-9223372036854775808 : Int) ≤ a0) (u0 : a0 ≤ (9223372036854775807 : Int)) (l1 : (-9223372036854775808 : Int) ≤ a1) (u1 : a1 ≤ (9223372036854775807 : Int)) (l2 : (-9223372036854775808 : Int) ≤ a2) (u2 : a2 ≤ (9223372036854775807 : Int)) (g0 : (30 : Int) < a0) : hiR0.holds [a0, a1, a2] := by
  refine Pt.h_no (show ¬ a0 < (0 : Int) from (hio0 a0 l0 u0 g0)) ?_
  refine Pt.h_yes (show (30 : Int) < a0 from g0) ?_
  exact Pt.h_done

theorem hirest : auto hiT0 [(-9223372036854775808, 9223372036854775807), (-9223372036854775808, 9223372036854775807), (-9223372036854775808, 9223372036854775807)] = hiR0 := by kernel_rfl
theorem hiall (a0 a1 a2 : Int) (l0 : (-9223372036854775808 : Int) ≤ a0) (u0 : a0 ≤ (9223372036854775807 : Int)) (l1 : (-9223372036854775808 : Int) ≤ a1) (u1 : a1 ≤ (9223372036854775807 : Int)) (l2 : (-9223372036854775808 : Int) ≤ a2) (u2 : a2 ≤ (9223372036854775807 : Int)) (g0 : (30 : Int) < a0) : hiT0.holds [a0, a1, a2] :=
  holds_auto hirest (fits_cons l0 u0 (fits_cons l1 u1 (fits_cons l2 u2 fits_nil))) (hit0 a0 a1 a2 l0 u0 l1 u1 l2 u2 g0)

def n0T0 : Pt := (.fork (.lt (.v 0) (.c 0)) .done (.fork (.lt (.c 3) (.v 0)) .done (.fork (.lt (.v 1) (.c 2)) .done (.fork (.lt (.c 4) (.v 1)) .done (.is (.wr .u8 (.v 0)) (.v 0) .done)))))

def n0R0 : Pt := (.fork (.lt (.v 0) (.c 0)) .done (.fork (.lt (.c 3) (.v 0)) .done (.fork (.lt (.v 1) (.c 2)) .done (.fork (.lt (.c 4) (.v 1)) .done .done))))

theorem n0t0 (a1 a2 : Int) (l0 : (-9223372036854775808 : Int) ≤ a1) (u0 : a1 ≤ (9223372036854775807 : Int)) (l1 : (-9223372036854775808 : Int) ≤ a2) (u1 : a2 ≤ (9223372036854775807 : Int)) : n0R0.holds [a1, a2] := by
  refine Pt.h_fork (fun (f0 : a1 < (0 : Int)) => ?_) (fun (f0 : ¬ a1 < (0 : Int)) => ?_)
  · skip
    exact Pt.h_done
  · skip
    refine Pt.h_fork (fun (f1 : (3 : Int) < a1) => ?_) (fun (f1 : ¬ (3 : Int) < a1) => ?_)
    · skip
      exact Pt.h_done
    · skip
      refine Pt.h_fork (fun (f2 : a2 < (2 : Int)) => ?_) (fun (f2 : ¬ a2 < (2 : Int)) => ?_)
      · skip
        exact Pt.h_done
      · skip
        refine Pt.h_fork (fun (f3 : (4 : Int) < a2) => ?_) (fun (f3 : ¬ (4 : Int) < a2) => ?_)
        · skip
          exact Pt.h_done
        · skip
          exact Pt.h_done

theorem n0rest : auto n0T0 [(-9223372036854775808, 9223372036854775807), (-9223372036854775808, 9223372036854775807)] = n0R0 := by kernel_rfl
theorem n0all (a1 a2 : Int) (l0 : (-9223372036854775808 : Int) ≤ a1) (u0 : a1 ≤ (9223372036854775807 : Int)) (l1 : (-9223372036854775808 : Int) ≤ a2) (u1 : a2 ≤ (9223372036854775807 : Int))  : n0T0.holds [a1, a2] :=
  holds_auto n0rest (fits_cons l0 u0 (fits_cons l1 u1 fits_nil)) (n0t0 a1 a2 l0 u0 l1 u1 )

def n1T0 : Pt := (.fork (.lt (.v 1) (.c 2)) .done (.fork (.lt (.c 4) (.v 1)) .done (.fork (.eq (.c 0) (.v 0)) (.is (.wr .u8 (.v 0)) (.c 0) .done) (.fork (.eq (.c 2) (.v 1)) (.is (.wr .u8 (.v 0)) (.v 0) .done) (.is (.wr .u8 (.v 0)) (.v 0) .done)))))

def n1T1 : Pt := (.fork (.lt (.c 3) (.v 0)) .done n1T0)

def n1T2 : Pt := (.fork (.lt (.v 0) (.c 0)) .done n1T1)

def n1R0 : Pt := (.fork (.lt (.c 3) (.v 0)) .done (.fork (.lt (.v 1) (.c 2)) .done (.fork (.lt (.c 4) (.v 1)) .done (.fork (.eq (.c 0) (.v 0)) .done (.fork (.eq (.c 2) (.v 1)) .done .done)))))

def n1R1 : Pt := (.fork (.lt (.v 0) (.c 0)) .done n1R0)

theorem n1t0 (a1 a2 : Int) (l0 : (-9223372036854775808 : Int) ≤ a1) (u0 : a1 ≤ (9223372036854775807 : Int)) (l1 : (-9223372036854775808 : Int) ≤ a2) (u1 : a2 ≤ (9223372036854775807 : Int)) : n1R1.holds [a1, a2] := by
  refine Pt.h_fork (fun (f0 : a1 < (0 : Int)) => ?_) (fun (f0 : ¬ a1 < (0 : Int)) => ?_)
  · skip
    exact Pt.h_done
  · skip
    refine Pt.h_fork (fun (f1 : (3 : Int) < a1) => ?_) (fun (f1 : ¬ (3 : Int) < a1) => ?_)
    · skip
      exact Pt.h_done
    · skip
      refine Pt.h_fork (fun (f2 : a2 < (2 : Int)) => ?_) (fun (f2 : ¬ a2 < (2 : Int)) => ?_)
      · skip
        exact Pt.h_done
      · skip
        refine Pt.h_fork (fun (f3 : (4 : Int) < a2) => ?_) (fun (f3 : ¬ (4 : Int) < a2) => ?_)
        · skip
          exact Pt.h_done
        · skip
          refine Pt.h_fork (fun (f4 : (0 : Int) = a1) => ?_) (fun (f4 : ¬ (0 : Int) = a1) => ?_)
          · skip
            exact Pt.h_done
          · skip
            refine Pt.h_fork (fun (f5 : (2 : Int) = a2) => ?_) (fun (f5 : ¬ (2 : Int) = a2) => ?_)
            · skip
              exact Pt.h_done
            · skip
              exact Pt.h_done

theorem n1rest : auto n1T2 [(-9223372036854775808, 9223372036854775807), (-9223372036854775808, 9223372036854775807)] = n1R1 := by kernel_rfl
theorem n1all (a1 a2 : Int) (l0 : (-9223372036854775808 : Int) ≤ a1) (u0 : a1 ≤ (9223372036854775807 : Int)) (l1 : (-9223372036854775808 : Int) ≤ a2) (u1 : a2 ≤ (9223372036854775807 : Int))  : n1T2.holds [a1, a2] :=
  holds_auto n1rest (fits_cons l0 u0 (fits_cons l1 u1 fits_nil)) (n1t0 a1 a2 l0 u0 l1 u1 )

def n2T0 : Pt := (.fork (.eq (.c 2) (.v 1)) (.fork (.eq (.c 1) (.v 0)) (.is (.wr .u8 (.v 0)) (.c 1) .done) (.no (.eq (.c 3) (.v 1)) (.is (.wr .u8 (.v 0)) (.v 0) .done))) (.fork (.eq (.c 1) (.v 0)) (.is (.wr .u8 (.v 0)) (.c 1) .done) (.fork (.eq (.c 3) (.v 1)) (.is (.wr .u8 (.v 0)) (.v 0) .done) (.is (.wr .u8 (.v 0)) (.v 0) .done))))

def n2T1 : Pt := (.fork (.eq (.c 0) (.v 0)) (.no (.eq (.c 1) (.v 0)) (.fork (.eq (.c 3) (.v 1)) (.is (.wr .u8 (.v 0)) (.c 0) .done) (.is (.wr .u8 (.v 0)) (.c 0) .done))) n2T0)

def n2T2 : Pt := (.fork (.lt (.c 4) (.v 1)) .done n2T1)

def n2T3 : Pt := (.fork (.lt (.v 1) (.c 2)) .done n2T2)

def n2T4 : Pt := (.fork (.lt (.c 3) (.v 0)) .done n2T3)

def n2T5 : Pt := (.fork (.lt (.v 0) (.c 0)) .done n2T4)

def n2R0 : Pt := (.fork (.eq (.c 0) (.v 0)) (.fork (.eq (.c 3) (.v 1)) .done .done) (.fork (.eq (.c 2) (.v 1)) (.fork (.eq (.c 1) (.v 0)) .done .done) (.fork (.eq (.c 1) (.v 0)) .done (.fork (.eq (.c 3) (.v 1)) .done .done))))

def n2R1 : Pt := (.fork (.lt (.c 4) (.v 1)) .done n2R0)

def n2R2 : Pt := (.fork (.lt (.v 1) (.c 2)) .done n2R1)

def n2R3 : Pt := (.fork (.lt (.c 3) (.v 0)) .done n2R2)

def n2R4 : Pt := (.fork (.lt (.v 0) (.c 0)) .done n2R3)

theorem n2t0 (a1 a2 : Int) (l0 : (-9223372036854775808 : Int) ≤ a1) (u0 : a1 ≤ (9223372036854775807 : Int)) (l1 : (-9223372036854775808 : Int) ≤ a2) (u1 : a2 ≤ (9223372036854775807 : Int)) : n2R4.holds [a1, a2] := by
  refine Pt.h_fork (fun (f0 : a1 < (0 : Int)) => ?_) (fun (f0 : ¬ a1 < (0 : Int)) => ?_)
  · skip
    exact Pt.h_done
  · skip
    refine Pt.h_fork (fun (f1 : (3 : Int) < a1) => ?_) (fun (f1 : ¬ (3 : Int) < a1) => ?_)
    · skip
      exact Pt.h_done
    · skip
      refine Pt.h_fork (fun (f2 : a2 < (2 : Int)) => ?_) (fun (f2 : ¬ a2 < (2 : Int)) => ?_)
      · skip
        exact Pt.h_done
      · skip
        refine Pt.h_fork (fun (f3 : (4 : Int) < a2) => ?_) (fun (f3 : ¬ (4 : Int) < a2) => ?_)
        · skip
          exact Pt.h_done
        · skip
          refine Pt.h_fork (fun (f4 : (0 : Int) = a1) => ?_) (fun (f4 : ¬ (0 : Int) = a1) => ?_)
          · skip
            refine Pt.h_fork (fun (f5 : (3 : Int) = a2) => ?_) (fun (f5 : ¬ (3 : Int) = a2) => ?_)
            · skip
              exact Pt.h_done
            · skip
              exact Pt.h_done
          · skip
            refine Pt.h_fork (fun (f5 : (2 : Int) = a2) => ?_) (fun (f5 : ¬ (2 : Int) = a2) => ?_)
            · skip
              refine Pt.h_fork (fun (f6 : (1 : Int) = a1) => ?_) (fun (f6 : ¬ (1 : Int) = a1) => ?_)
              · skip
                exact Pt.h_done
              · skip
                exact Pt.h_done
            · skip
              refine Pt.h_fork (fun (f6 : (1 : Int) = a1) => ?_) (fun (f6 : ¬ (1 : Int) = a1) => ?_)
              · skip
                exact Pt.h_done
              · skip
                refine Pt.h_fork (fun (f7 : (3 : Int) = a2) => ?_) (fun (f7 : ¬ (3 : Int) = a2) => ?_)
                · skip
                  exact Pt.h_done
                · skip
                  exact Pt.h_done

theorem n2rest : auto n2T5 [(-9223372036854775808, 9223372036854775807), (-9223372036854775808, 9223372036854775807)] = n2R4 := by kernel_rfl
theorem n2all (a1 a2 : Int) (l0 : (-9223372036854775808 : Int) ≤ a1) (u0 : a1 ≤ (9223372036854775807 : Int)) (l1 : (-9223372036854775808 : Int) ≤ a2) (u1 : a2 ≤ (9223372036854775807 : Int))  : n2T5.holds [a1, a2] :=
  holds_auto n2rest (fits_cons l0 u0 (fits_cons l1 u1 fits_nil)) (n2t0 a1 a2 l0 u0 l1 u1 )

def n3T0 : Pt := (.no (.eq (.c 1) (.v 0)) (.fork (.eq (.c 3) (.v 1)) (.no (.eq (.c 2) (.v 0)) (.no (.eq (.c 4) (.v 1)) (.is (.wr .u8 (.v 0)) (.c 0) .done))) (.no (.eq (.c 2) (.v 0)) (.fork (.eq (.c 4) (.v 1)) (.is (.wr .u8 (.v 0)) (.c 0) .done) (.is (.wr .u8 (.v 0)) (.c 0) .done)))))

def n3T1 : Pt := (.fork (.eq (.c 1) (.v 0)) (.no (.eq (.c 2) (.v 0)) (.no (.eq (.c 4) (.v 1)) (.is (.wr .u8 (.v 0)) (.c 1) .done))) (.no (.eq (.c 3) (.v 1)) (.fork (.eq (.c 2) (.v 0)) (.no (.eq (.c 4) (.v 1)) (.is (.wr .u8 (.v 0)) (.c 2) .done)) (.no (.eq (.c 4) (.v 1)) (.is (.wr .u8 (.v 0)) (.c 3) .done)))))

def n3T2 : Pt := (.fork (.eq (.c 3) (.v 1)) (.fork (.eq (.c 2) (.v 0)) (.no (.eq (.c 4) (.v 1)) (.is (.wr .u8 (.v 0)) (.c 2) .done)) (.no (.eq (.c 4) (.v 1)) (.is (.wr .u8 (.v 0)) (.c 3) .done))) (.fork (.eq (.c 2) (.v 0)) (.yes (.eq (.c 4) (.v 1)) (.is (.wr .u8 (.v 0)) (.c 2) .done)) (.yes (.eq (.c 4) (.v 1)) (.is (.wr .u8 (.v 0)) (.c 3) .done))))

def n3T3 : Pt := (.fork (.eq (.c 1) (.v 0)) (.no (.eq (.c 2) (.v 0)) (.fork (.eq (.c 4) (.v 1)) (.is (.wr .u8 (.v 0)) (.c 1) .done) (.is (.wr .u8 (.v 0)) (.c 1) .done))) n3T2)

def n3T4 : Pt := (.fork (.eq (.c 2) (.v 1)) n3T1 n3T3)

def n3T5 : Pt := (.fork (.eq (.c 0) (.v 0)) n3T0 n3T4)

def n3T6 : Pt := (.fork (.lt (.c 4) (.v 1)) .done n3T5)

def n3T7 : Pt := (.fork (.lt (.v 1) (.c 2)) .done n3T6)

def n3T8 : Pt := (.fork (.lt (.c 3) (.v 0)) .done n3T7)

def n3T9 : Pt := (.fork (.lt (.v 0) (.c 0)) .done n3T8)

def n3R0 : Pt := (.fork (.eq (.c 3) (.v 1)) (.fork (.eq (.c 2) (.v 0)) .done (.is (.wr .u8 (.v 0)) (.c 3) .done)) (.fork (.eq (.c 2) (.v 0)) (.yes (.eq (.c 4) (.v 1)) .done) (.yes (.eq (.c 4) (.v 1)) (.is (.wr .u8 (.v 0)) (.c 3) .done))))

def n3R1 : Pt := (.fork (.eq (.c 1) (.v 0)) (.fork (.eq (.c 4) (.v 1)) .done .done) n3R0)

def n3R2 : Pt := (.fork (.eq (.c 2) (.v 1)) (.fork (.eq (.c 1) (.v 0)) .done (.fork (.eq (.c 2) (.v 0)) .done (.is (.wr .u8 (.v 0)) (.c 3) .done))) n3R1)

def n3R3 : Pt := (.fork (.eq (.c 0) (.v 0)) (.fork (.eq (.c 3) (.v 1)) .done (.fork (.eq (.c 4) (.v 1)) .done .done)) n3R2)

def n3R4 : Pt := (.fork (.lt (.c 4) (.v 1)) .done n3R3)

def n3R5 : Pt := (.fork (.lt (.v 1) (.c 2)) .done n3R4)

def n3R6 : Pt := (.fork (.lt (.c 3) (.v 0)) .done n3R5)

def n3R7 : Pt := (.fork (.lt (.v 0) (.c 0)) .done n3R6)

theorem n3o0 (a1 : Int) (h0 : (-9223372036854775808 : Int) ≤ a1) (h1 : a1 ≤ (9223372036854775807 : Int)) (h2 : ¬ a1 < (0 : Int)) (h3 : ¬ (3 : Int) < a1) (h4 : ¬ (0 : Int) = a1) (h5 : ¬ (1 : Int) = a1) (h6 : ¬ (2 : Int) = a1) : (a1) % 256 = (3 : Int) := by omega

theorem n3o1 (a2 : Int) (h0 : (-9223372036854775808 : Int) ≤ a2) (h1 : a2 ≤ (9223372036854775807 : Int)) (h2 : ¬ a2 < (2 : Int)) (h3 : ¬ (4 : Int) < a2) (h4 : ¬ (2 : Int) = a2) (h5 : ¬ (3 : Int) = a2) : (4 : Int) = a2 := by omega

theorem n3t0 (a1 a2 : Int) (l0 : (-9223372036854775808 : Int) ≤ a1) (u0 : a1 ≤ (9223372036854775807 : Int)) (l1 : (-9223372036854775808 : Int) ≤ a2) (u1 : a2 ≤ (9223372036854775807 : Int)) : n3R7.holds [a1, a2] := by
  refine Pt.h_fork (fun (f0 : a1 < (0 : Int)) => ?_) (fun (f0 : ¬ a1 < (0 : Int)) => ?_)
  · skip
    exact Pt.h_done
  · skip
    refine Pt.h_fork (fun (f1 : (3 : Int) < a1) => ?_) (fun (f1 : ¬ (3 : Int) < a1) => ?_)
    · skip
      exact Pt.h_done
    · skip
      refine Pt.h_fork (fun (f2 : a2 < (2 : Int)) => ?_) (fun (f2 : ¬ a2 < (2 : Int)) => ?_)
      · skip
        exact Pt.h_done
      · skip
        refine Pt.h_fork (fun (f3 : (4 : Int) < a2) => ?_) (fun (f3 : ¬ (4 : Int) < a2) => ?_)
        · skip
          exact Pt.h_done
        · skip
          refine Pt.h_fork (fun (f4 : (0 : Int) = a1) => ?_) (fun (f4 : ¬ (0 : Int) = a1) => ?_)
          · skip
            refine Pt.h_fork (fun (f5 : (3 : Int) = a2) => ?_) (fun (f5 : ¬ (3 : Int) = a2) => ?_)
            · skip
              exact Pt.h_done
            · skip
              refine Pt.h_fork (fun (f6 : (4 : Int) = a2) => ?_) (fun (f6 : ¬ (4 : Int) = a2) => ?_)
              · skip
                exact Pt.h_done
              · skip
                exact Pt.h_done
          · skip
            refine Pt.h_fork (fun (f5 : (2 : Int) = a2) => ?_) (fun (f5 : ¬ (2 : Int) = a2) => ?_)
            · skip
              refine Pt.h_fork (fun (f6 : (1 : Int) = a1) => ?_) (fun (f6 : ¬ (1 : Int) = a1) => ?_)
              · skip
                exact Pt.h_done
              · skip
                refine Pt.h_fork (fun (f7 : (2 : Int) = a1) => ?_) (fun (f7 : ¬ (2 : Int) = a1) => ?_)
                · skip
                  exact Pt.h_done
                · skip
                  refine Pt.h_is (v_wr rfl  ((wrap_u8 _).trans (n3o0 a1 l0 u0 f0 f1 f4 f6 f7))) ?_
                  exact Pt.h_done
            · skip
              refine Pt.h_fork (fun (f6 : (1 : Int) = a1) => ?_) (fun (f6 : ¬ (1 : Int) = a1) => ?_)
              · skip
                refine Pt.h_fork (fun (f7 : (4 : Int) = a2) => ?_) (fun (f7 : ¬ (4 : Int) = a2) => ?_)
                · skip
                  exact Pt.h_done
                · skip
                  exact Pt.h_done
              · skip
                refine Pt.h_fork (fun (f7 : (3 : Int) = a2) => ?_) (fun (f7 : ¬ (3 : Int) = a2) => ?_)
                · skip
                  refine Pt.h_fork (fun (f8 : (2 : Int) = a1) => ?_) (fun (f8 : ¬ (2 : Int) = a1) => ?_)
                  · skip
                    exact Pt.h_done
                  · skip
                    refine Pt.h_is (v_wr rfl  ((wrap_u8 _).trans (n3o0 a1 l0 u0 f0 f1 f4 f6 f8))) ?_
                    exact Pt.h_done
                · skip
                  refine Pt.h_fork (fun (f8 : (2 : Int) = a1) => ?_) (fun (f8 : ¬ (2 : Int) = a1) => ?_)
                  · skip
                    refine Pt.h_yes (show (4 : Int) = a2 from (n3o1 a2 l1 u1 f2 f3 f5 f7)) ?_
                    exact Pt.h_done
                  · skip
                    refine Pt.h_yes (show (4 : Int) = a2 from (n3o1 a2 l1 u1 f2 f3 f5 f7)) ?_
                    refine Pt.h_is (v_wr rfl  ((wrap_u8 _).trans (n3o0 a1 l0 u0 f0 f1 f4 f6 f8))) ?_
                    exact Pt.h_done

theorem n3rest : auto n3T9 [(-9223372036854775808, 9223372036854775807), (-9223372036854775808, 9223372036854775807)] = n3R7 := by kernel_rfl
theorem n3all (a1 a2 : Int) (l0 : (-9223372036854775808 : Int) ≤ a1) (u0 : a1 ≤ (9223372036854775807 : Int)) (l1 : (-9223372036854775808 : Int) ≤ a2) (u1 : a2 ≤ (9223372036854775807 : Int))  : n3T9.holds [a1, a2] :=
  holds_auto n3rest (fits_cons l0 u0 (fits_cons l1 u1 fits_nil)) (n3t0 a1 a2 l0 u0 l1 u1 )

def n4T0 : Pt := (.no (.eq (.c 1) (.v 0)) (.fork (.eq (.c 3) (.v 1)) (.no (.eq (.c 2) (.v 0)) (.no (.eq (.c 4) (.v 1)) (.no (.eq (.c 3) (.v 0)) (.no (.eq (.c 2) (.v 1)) (.is (.wr .u8 (.v 0)) (.c 0) .done))))) (.no (.eq (.c 2) (.v 0)) (.fork (.eq (.c 4) (.v 1)) (.no (.eq (.c 3) (.v 0)) (.no (.eq (.c 2) (.v 1)) (.is (.wr .u8 (.v 0)) (.c 0) .done))) (.no (.eq (.c 3) (.v 0)) (.yes (.eq (.c 2) (.v 1)) (.is (.wr .u8 (.v 0)) (.c 0) .done)))))))

def n4T1 : Pt := (.fork (.eq (.c 1) (.v 0)) (.no (.eq (.c 2) (.v 0)) (.no (.eq (.c 4) (.v 1)) (.no (.eq (.c 3) (.v 0)) (.is (.wr .u8 (.v 0)) (.c 1) .done)))) (.no (.eq (.c 3) (.v 1)) (.fork (.eq (.c 2) (.v 0)) (.no (.eq (.c 4) (.v 1)) (.no (.eq (.c 3) (.v 0)) (.is (.wr .u8 (.v 0)) (.c 2) .done))) (.no (.eq (.c 4) (.v 1)) (.yes (.eq (.c 3) (.v 0)) (.is (.wr .u8 (.v 0)) (.c 3) .done))))))

def n4T2 : Pt := (.fork (.eq (.c 3) (.v 1)) (.fork (.eq (.c 2) (.v 0)) (.no (.eq (.c 4) (.v 1)) (.no (.eq (.c 3) (.v 0)) (.is (.wr .u8 (.v 0)) (.c 2) .done))) (.no (.eq (.c 4) (.v 1)) (.yes (.eq (.c 3) (.v 0)) (.is (.wr .u8 (.v 0)) (.c 3) .done)))) (.fork (.eq (.c 2) (.v 0)) (.yes (.eq (.c 4) (.v 1)) (.no (.eq (.c 3) (.v 0)) (.is (.wr .u8 (.v 0)) (.c 2) .done))) (.yes (.eq (.c 4) (.v 1)) (.yes (.eq (.c 3) (.v 0)) (.is (.wr .u8 (.v 0)) (.c 3) .done)))))

def n4T3 : Pt := (.fork (.eq (.c 1) (.v 0)) (.no (.eq (.c 2) (.v 0)) (.fork (.eq (.c 4) (.v 1)) (.no (.eq (.c 3) (.v 0)) (.is (.wr .u8 (.v 0)) (.c 1) .done)) (.no (.eq (.c 3) (.v 0)) (.is (.wr .u8 (.v 0)) (.c 1) .done)))) n4T2)

def n4T4 : Pt := (.fork (.eq (.c 2) (.v 1)) n4T1 n4T3)

def n4T5 : Pt := (.fork (.eq (.c 0) (.v 0)) n4T0 n4T4)

def n4T6 : Pt := (.fork (.lt (.c 4) (.v 1)) .done n4T5)

def n4T7 : Pt := (.fork (.lt (.v 1) (.c 2)) .done n4T6)

def n4T8 : Pt := (.fork (.lt (.c 3) (.v 0)) .done n4T7)

def n4T9 : Pt := (.fork (.lt (.v 0) (.c 0)) .done n4T8)

def n4R0 : Pt := (.fork (.eq (.c 3) (.v 1)) (.fork (.eq (.c 2) (.v 0)) .done (.yes (.eq (.c 3) (.v 0)) .done)) (.fork (.eq (.c 2) (.v 0)) (.yes (.eq (.c 4) (.v 1)) .done) (.yes (.eq (.c 4) (.v 1)) (.yes (.eq (.c 3) (.v 0)) .done))))

def n4R1 : Pt := (.fork (.eq (.c 1) (.v 0)) (.fork (.eq (.c 4) (.v 1)) .done .done) n4R0)

def n4R2 : Pt := (.fork (.eq (.c 2) (.v 1)) (.fork (.eq (.c 1) (.v 0)) .done (.fork (.eq (.c 2) (.v 0)) .done (.yes (.eq (.c 3) (.v 0)) .done))) n4R1)

def n4R3 : Pt := (.fork (.eq (.c 0) (.v 0)) (.fork (.eq (.c 3) (.v 1)) .done (.fork (.eq (.c 4) (.v 1)) .done (.yes (.eq (.c 2) (.v 1)) .done))) n4R2)

def n4R4 : Pt := (.fork (.lt (.c 4) (.v 1)) .done n4R3)

def n4R5 : Pt := (.fork (.lt (.v 1) (.c 2)) .done n4R4)

def n4R6 : Pt := (.fork (.lt (.c 3) (.v 0)) .done n4R5)

def n4R7 : Pt := (.fork (.lt (.v 0) (.c 0)) .done n4R6)

theorem n4o0 (a2 : Int) (h0 : (-9223372036854775808 : Int) ≤ a2) (h1 : a2 ≤ (9223372036854775807 : Int)) (h2 : ¬ a2 < (2 : Int)) (h3 : ¬ (4 : Int) < a2) (h4 : ¬ (3 : Int) = a2) (h5 : ¬ (4 : Int) = a2) : (2 : Int) = a2 := by omega

theorem n4o1 (a1 : Int) (h0 : (-9223372036854775808 : Int) ≤ a1) (h1 : a1 ≤ (9223372036854775807 : Int)) (h2 : ¬ a1 < (0 : Int)) (h3 : ¬ (3 : Int) < a1) (h4 : ¬ (0 : Int) = a1) (h5 : ¬ (1 : Int) = a1) (h6 : ¬ (2 : Int) = a1) : (3 : Int) = a1 := by omega

theorem n4o2 (a2 : Int) (h0 : (-9223372036854775808 : Int) ≤ a2) (h1 : a2 ≤ (9223372036854775807 : Int)) (h2 : ¬ a2 < (2 : Int)) (h3 : ¬ (4 : Int) < a2) (h4 : ¬ (2 : Int) = a2) (h5 : ¬ (3 : Int) = a2) : (4 : Int) = a2 := by omega

theorem n4t0 (a1 a2 : Int) (l0 : (-9223372036854775808 : Int) ≤ a1) (u0 : a1 ≤ (9223372036854775807 : Int)) (l1 : (-9223372036854775808 : Int) ≤ a2) (u1 : a2 ≤ (9223372036854775807 : Int)) : n4R7.holds [a1, a2] := by
  refine Pt.h_fork (fun (f0 : a1 < (0 : Int)) => ?_) (fun (f0 : ¬ a1 < (0 : Int)) => ?_)
  · skip
    exact Pt.h_done
  · skip
    refine Pt.h_fork (fun (f1 : (3 : Int) < a1) => ?_) (fun (f1 : ¬ (3 : Int) < a1) => ?_)
    · skip
      exact Pt.h_done
    · skip
      refine Pt.h_fork (fun (f2 : a2 < (2 : Int)) => ?_) (fun (f2 : ¬ a2 < (2 : Int)) => ?_)
      · skip
        exact Pt.h_done
      · skip
        refine Pt.h_fork (fun (f3 : (4 : Int) < a2) => ?_) (fun (f3 : ¬ (4 : Int) < a2) => ?_)
        · skip
          exact Pt.h_done
        · skip
          refine Pt.h_fork (fun (f4 : (0 : Int) = a1) => ?_) (fun (f4 : ¬ (0 : Int) = a1) => ?_)
          · skip
            refine Pt.h_fork (fun (f5 : (3 : Int) = a2) => ?_) (fun (f5 : ¬ (3 : Int) = a2) => ?_)
            · skip
              exact Pt.h_done
            · skip
              refine Pt.h_fork (fun (f6 : (4 : Int) = a2) => ?_) (fun (f6 : ¬ (4 : Int) = a2) => ?_)
              · skip
                exact Pt.h_done
              · skip
                refine Pt.h_yes (show (2 : Int) = a2 from (n4o0 a2 l1 u1 f2 f3 f5 f6)) ?_
                exact Pt.h_done
          · skip
            refine Pt.h_fork (fun (f5 : (2 : Int) = a2) => ?_) (fun (f5 : ¬ (2 : Int) = a2) => ?_)
            · skip
              refine Pt.h_fork (fun (f6 : (1 : Int) = a1) => ?_) (fun (f6 : ¬ (1 : Int) = a1) => ?_)
              · skip
                exact Pt.h_done
              · skip
                refine Pt.h_fork (fun (f7 : (2 : Int) = a1) => ?_) (fun (f7 : ¬ (2 : Int) = a1) => ?_)
                · skip
                  exact Pt.h_done
                · skip
                  refine Pt.h_yes (show (3 : Int) = a1 from (n4o1 a1 l0 u0 f0 f1 f4 f6 f7)) ?_
                  exact Pt.h_done
            · skip
              refine Pt.h_fork (fun (f6 : (1 : Int) = a1) => ?_) (fun (f6 : ¬ (1 : Int) = a1) => ?_)
              · skip
                refine Pt.h_fork (fun (f7 : (4 : Int) = a2) => ?_) (fun (f7 : ¬ (4 : Int) = a2) => ?_)
                · skip
                  exact Pt.h_done
                · skip
                  exact Pt.h_done
              · skip
                refine Pt.h_fork (fun (f7 : (3 : Int) = a2) => ?_) (fun (f7 : ¬ (3 : Int) = a2) => ?_)
                · skip
                  refine Pt.h_fork (fun (f8 : (2 : Int) = a1) => ?_) (fun (f8 : ¬ (2 : Int) = a1) => ?_)
                  · skip
                    exact Pt.h_done
                  · skip
                    refine Pt.h_yes (show (3 : Int) = a1 from (n4o1 a1 l0 u0 f0 f1 f4 f6 f8)) ?_
                    exact Pt.h_done
                · skip
                  refine Pt.h_fork (fun (f8 : (2 : Int) = a1) => ?_) (fun (f8 : ¬ (2 : Int) = a1) => ?_)
                  · skip
                    refine Pt.h_yes (show (4 : Int) = a2 from (n4o2 a2 l1 u1 f2 f3 f5 f7)) ?_
                    exact Pt.h_done
                  · skip
                    refine Pt.h_yes (show (4 : Int) = a2 from (n4o2 a2 l1 u1 f2 f3 f5 f7)) ?_
                    refine Pt.h_yes (show (3 : Int) = a1 from (n4o1 a1 l0 u0 f0 f1 f4 f6 f8)) ?_
                    exact Pt.h_done

theorem n4rest : auto n4T9 [(-9223372036854775808, 9223372036854775807), (-9223372036854775808, 9223372036854775807)] = n4R7 := by kernel_rfl
theorem n4all (a1 a2 : Int) (l0 : (-9223372036854775808 : Int) ≤ a1) (u0 : a1 ≤ (9223372036854775807 : Int)) (l1 : (-9223372036854775808 : Int) ≤ a2) (u1 : a2 ≤ (9223372036854775807 : Int))  : n4T9.holds [a1, a2] :=
  holds_auto n4rest (fits_cons l0 u0 (fits_cons l1 u1 fits_nil)) (n4t0 a1 a2 l0 u0 l1 u1 )

def n5T0 : Pt := (.no (.eq (.c 1) (.v 0)) (.fork (.eq (.c 3) (.v 1)) (.no (.eq (.c 2) (.v 0)) (.no (.eq (.c 4) (.v 1)) (.no (.eq (.c 3) (.v 0)) (.no (.eq (.c 2) (.v 1)) (.is (.wr .u8 (.v 0)) (.c 0) .done))))) (.no (.eq (.c 2) (.v 0)) (.fork (.eq (.c 4) (.v 1)) (.no (.eq (.c 3) (.v 0)) (.no (.eq (.c 2) (.v 1)) (.is (.wr .u8 (.v 0)) (.c 0) .done))) (.no (.eq (.c 3) (.v 0)) (.yes (.eq (.c 2) (.v 1)) (.is (.wr .u8 (.v 0)) (.c 0) .done)))))))

def n5T1 : Pt := (.fork (.eq (.c 1) (.v 0)) (.no (.eq (.c 2) (.v 0)) (.no (.eq (.c 4) (.v 1)) (.no (.eq (.c 3) (.v 0)) (.no (.eq (.c 3) (.v 1)) (.is (.wr .u8 (.v 0)) (.c 1) .done))))) (.no (.eq (.c 3) (.v 1)) (.fork (.eq (.c 2) (.v 0)) (.no (.eq (.c 4) (.v 1)) (.no (.eq (.c 3) (.v 0)) (.is (.wr .u8 (.v 0)) (.c 2) .done))) (.no (.eq (.c 4) (.v 1)) (.yes (.eq (.c 3) (.v 0)) (.is (.wr .u8 (.v 0)) (.c 3) .done))))))

def n5T2 : Pt := (.fork (.eq (.c 3) (.v 1)) (.fork (.eq (.c 2) (.v 0)) (.no (.eq (.c 4) (.v 1)) (.no (.eq (.c 3) (.v 0)) (.is (.wr .u8 (.v 0)) (.c 2) .done))) (.no (.eq (.c 4) (.v 1)) (.yes (.eq (.c 3) (.v 0)) (.is (.wr .u8 (.v 0)) (.c 3) .done)))) (.fork (.eq (.c 2) (.v 0)) (.yes (.eq (.c 4) (.v 1)) (.no (.eq (.c 3) (.v 0)) (.is (.wr .u8 (.v 0)) (.c 2) .done))) (.yes (.eq (.c 4) (.v 1)) (.yes (.eq (.c 3) (.v 0)) (.is (.wr .u8 (.v 0)) (.c 3) .done)))))

def n5T3 : Pt := (.fork (.eq (.c 1) (.v 0)) (.no (.eq (.c 2) (.v 0)) (.fork (.eq (.c 4) (.v 1)) (.no (.eq (.c 3) (.v 0)) (.no (.eq (.c 3) (.v 1)) (.is (.wr .u8 (.v 0)) (.c 1) .done))) (.no (.eq (.c 3) (.v 0)) (.yes (.eq (.c 3) (.v 1)) (.is (.wr .u8 (.v 0)) (.c 1) .done))))) n5T2)

def n5T4 : Pt := (.fork (.eq (.c 2) (.v 1)) n5T1 n5T3)

def n5T5 : Pt := (.fork (.eq (.c 0) (.v 0)) n5T0 n5T4)

def n5T6 : Pt := (.fork (.lt (.c 4) (.v 1)) .done n5T5)

def n5T7 : Pt := (.fork (.lt (.v 1) (.c 2)) .done n5T6)

def n5T8 : Pt := (.fork (.lt (.c 3) (.v 0)) .done n5T7)

def n5T9 : Pt := (.fork (.lt (.v 0) (.c 0)) .done n5T8)

def n5R0 : Pt := (.fork (.eq (.c 3) (.v 1)) (.fork (.eq (.c 2) (.v 0)) .done (.yes (.eq (.c 3) (.v 0)) .done)) (.fork (.eq (.c 2) (.v 0)) (.yes (.eq (.c 4) (.v 1)) .done) (.yes (.eq (.c 4) (.v 1)) (.yes (.eq (.c 3) (.v 0)) .done))))

def n5R1 : Pt := (.fork (.eq (.c 1) (.v 0)) (.fork (.eq (.c 4) (.v 1)) .done (.yes (.eq (.c 3) (.v 1)) .done)) n5R0)

def n5R2 : Pt := (.fork (.eq (.c 2) (.v 1)) (.fork (.eq (.c 1) (.v 0)) .done (.fork (.eq (.c 2) (.v 0)) .done (.yes (.eq (.c 3) (.v 0)) .done))) n5R1)

def n5R3 : Pt := (.fork (.eq (.c 0) (.v 0)) (.fork (.eq (.c 3) (.v 1)) .done (.fork (.eq (.c 4) (.v 1)) .done (.yes (.eq (.c 2) (.v 1)) .done))) n5R2)

def n5R4 : Pt := (.fork (.lt (.c 4) (.v 1)) .done n5R3)

def n5R5 : Pt := (.fork (.lt (.v 1) (.c 2)) .done n5R4)

def n5R6 : Pt := (.fork (.lt (.c 3) (.v 0)) .done n5R5)

def n5R7 : Pt := (.fork (.lt (.v 0) (.c 0)) .done n5R6)

theorem n5o0 (a2 : Int) (h0 : (-9223372036854775808 : Int) ≤ a2) (h1 : a2 ≤ (9223372036854775807 : Int)) (h2 : ¬ a2 < (2 : Int)) (h3 : ¬ (4 : Int) < a2) (h4 : ¬ (3 : Int) = a2) (h5 : ¬ (4 : Int) = a2) : (2 : Int) = a2 := by omega

theorem n5o1 (a1 : Int) (h0 : (-9223372036854775808 : Int) ≤ a1) (h1 : a1 ≤ (9223372036854775807 : Int)) (h2 : ¬ a1 < (0 : Int)) (h3 : ¬ (3 : Int) < a1) (h4 : ¬ (0 : Int) = a1) (h5 : ¬ (1 : Int) = a1) (h6 : ¬ (2 : Int) = a1) : (3 : Int) = a1 := by omega

theorem n5o2 (a2 : Int) (h0 : (-9223372036854775808 : Int) ≤ a2) (h1 : a2 ≤ (9223372036854775807 : Int)) (h2 : ¬ a2 < (2 : Int)) (h3 : ¬ (4 : Int) < a2) (h4 : ¬ (2 : Int) = a2) (h5 : ¬ (4 : Int) = a2) : (3 : Int) = a2 := by omega

theorem n5o3 (a2 : Int) (h0 : (-9223372036854775808 : Int) ≤ a2) (h1 : a2 ≤ (9223372036854775807 : Int)) (h2 : ¬ a2 < (2 : Int)) (h3 : ¬ (4 : Int) < a2) (h4 : ¬ (2 : Int) = a2) (h5 : ¬ (3 : Int) = a2) : (4 : Int) = a2 := by omega

theorem n5t0 (a1 a2 : Int) (l0 : (-9223372036854775808 : Int) ≤ a1) (u0 : a1 ≤ (9223372036854775807 : Int)) (l1 : (-9223372036854775808 : Int) ≤ a2) (u1 : a2 ≤ (9223372036854775807 : Int)) : n5R7.holds [a1, a2] := by
  refine Pt.h_fork (fun (f0 : a1 < (0 : Int)) => ?_) (fun (f0 : ¬ a1 < (0 : Int)) => ?_)
  · skip
    exact Pt.h_done
  · skip
    refine Pt.h_fork (fun (f1 : (3 : Int) < a1) => ?_) (fun (f1 : ¬ (3 : Int) < a1) => ?_)
    · skip
      exact Pt.h_done
    · skip
      refine Pt.h_fork (fun (f2 : a2 < (2 : Int)) => ?_) (fun (f2 : ¬ a2 < (2 : Int)) => ?_)
      · skip
        exact Pt.h_done
      · skip
        refine Pt.h_fork (fun (f3 : (4 : Int) < a2) => ?_) (fun (f3 : ¬ (4 : Int) < a2) => ?_)
        · skip
          exact Pt.h_done
        · skip
          refine Pt.h_fork (fun (f4 : (0 : Int) = a1) => ?_) (fun (f4 : ¬ (0 : Int) = a1) => ?_)
          · skip
            refine Pt.h_fork (fun (f5 : (3 : Int) = a2) => ?_) (fun (f5 : ¬ (3 : Int) = a2) => ?_)
            · skip
              exact Pt.h_done
            · skip
              refine Pt.h_fork (fun (f6 : (4 : Int) = a2) => ?_) (fun (f6 : ¬ (4 : Int) = a2) => ?_)
              · skip
                exact Pt.h_done
              · skip
                refine Pt.h_yes (show (2 : Int) = a2 from (n5o0 a2 l1 u1 f2 f3 f5 f6)) ?_
                exact Pt.h_done
          · skip
            refine Pt.h_fork (fun (f5 : (2 : Int) = a2) => ?_) (fun (f5 : ¬ (2 : Int) = a2) => ?_)
            · skip
              refine Pt.h_fork (fun (f6 : (1 : Int) = a1) => ?_) (fun (f6 : ¬ (1 : Int) = a1) => ?_)
              · skip
                exact Pt.h_done
              · skip
                refine Pt.h_fork (fun (f7 : (2 : Int) = a1) => ?_) (fun (f7 : ¬ (2 : Int) = a1) => ?_)
                · skip
                  exact Pt.h_done
                · skip
                  refine Pt.h_yes (show (3 : Int) = a1 from (n5o1 a1 l0 u0 f0 f1 f4 f6 f7)) ?_
                  exact Pt.h_done
            · skip
              refine Pt.h_fork (fun (f6 : (1 : Int) = a1) => ?_) (fun (f6 : ¬ (1 : Int) = a1) => ?_)
              · skip
                refine Pt.h_fork (fun (f7 : (4 : Int) = a2) => ?_) (fun (f7 : ¬ (4 : Int) = a2) => ?_)
                · skip
                  exact Pt.h_done
                · skip
                  refine Pt.h_yes (show (3 : Int) = a2 from (n5o2 a2 l1 u1 f2 f3 f5 f7)) ?_
                  exact Pt.h_done
              · skip
                refine Pt.h_fork (fun (f7 : (3 : Int) = a2) => ?_) (fun (f7 : ¬ (3 : Int) = a2) => ?_)
                · skip
                  refine Pt.h_fork (fun (f8 : (2 : Int) = a1) => ?_) (fun (f8 : ¬ (2 : Int) = a1) => ?_)
                  · skip
                    exact Pt.h_done
                  · skip
                    refine Pt.h_yes (show (3 : Int) = a1 from (n5o1 a1 l0 u0 f0 f1 f4 f6 f8)) ?_
                    exact Pt.h_done
                · skip
                  refine Pt.h_fork (fun (f8 : (2 : Int) = a1) => ?_) (fun (f8 : ¬ (2 : Int) = a1) => ?_)
                  · skip
                    refine Pt.h_yes (show (4 : Int) = a2 from (n5o3 a2 l1 u1 f2 f3 f5 f7)) ?_
                    exact Pt.h_done
                  · skip
                    refine Pt.h_yes (show (4 : Int) = a2 from (n5o3 a2 l1 u1 f2 f3 f5 f7)) ?_
                    refine Pt.h_yes (show (3 : Int) = a1 from (n5o1 a1 l0 u0 f0 f1 f4 f6 f8)) ?_
                    exact Pt.h_done

theorem n5rest : auto n5T9 [(-9223372036854775808, 9223372036854775807), (-9223372036854775808, 9223372036854775807)] = n5R7 := by kernel_rfl
theorem n5all (a1 a2 : Int) (l0 : (-9223372036854775808 : Int) ≤ a1) (u0 : a1 ≤ (9223372036854775807 : Int)) (l1 : (-9223372036854775808 : Int) ≤ a2) (u1 : a2 ≤ (9223372036854775807 : Int))  : n5T9.holds [a1, a2] :=
  holds_auto n5rest (fits_cons l0 u0 (fits_cons l1 u1 fits_nil)) (n5t0 a1 a2 l0 u0 l1 u1 )

def n6T0 : Pt := (.no (.eq (.c 1) (.v 0)) (.fork (.eq (.c 3) (.v 1)) (.no (.eq (.c 2) (.v 0)) (.no (.eq (.c 4) (.v 1)) (.no (.eq (.c 3) (.v 0)) (.no (.eq (.c 2) (.v 1)) (.is (.wr .u8 (.v 0)) (.c 0) .done))))) (.no (.eq (.c 2) (.v 0)) (.fork (.eq (.c 4) (.v 1)) (.no (.eq (.c 3) (.v 0)) (.no (.eq (.c 2) (.v 1)) (.is (.wr .u8 (.v 0)) (.c 0) .done))) (.no (.eq (.c 3) (.v 0)) (.yes (.eq (.c 2) (.v 1)) (.is (.wr .u8 (.v 0)) (.c 0) .done)))))))

def n6T1 : Pt := (.fork (.eq (.c 1) (.v 0)) (.no (.eq (.c 2) (.v 0)) (.no (.eq (.c 4) (.v 1)) (.no (.eq (.c 3) (.v 0)) (.no (.eq (.c 3) (.v 1)) (.is (.wr .u8 (.v 0)) (.c 1) .done))))) (.no (.eq (.c 3) (.v 1)) (.fork (.eq (.c 2) (.v 0)) (.no (.eq (.c 4) (.v 1)) (.no (.eq (.c 3) (.v 0)) (.is (.wr .u8 (.v 0)) (.c 2) .done))) (.no (.eq (.c 4) (.v 1)) (.yes (.eq (.c 3) (.v 0)) (.is (.wr .u8 (.v 0)) (.c 3) .done))))))

def n6T2 : Pt := (.fork (.eq (.c 3) (.v 1)) (.fork (.eq (.c 2) (.v 0)) (.no (.eq (.c 4) (.v 1)) (.no (.eq (.c 3) (.v 0)) (.is (.wr .u8 (.v 0)) (.c 2) .done))) (.no (.eq (.c 4) (.v 1)) (.yes (.eq (.c 3) (.v 0)) (.is (.wr .u8 (.v 0)) (.c 3) .done)))) (.fork (.eq (.c 2) (.v 0)) (.yes (.eq (.c 4) (.v 1)) (.no (.eq (.c 3) (.v 0)) (.is (.wr .u8 (.v 0)) (.c 2) .done))) (.yes (.eq (.c 4) (.v 1)) (.yes (.eq (.c 3) (.v 0)) (.is (.wr .u8 (.v 0)) (.c 3) .done)))))

def n6T3 : Pt := (.fork (.eq (.c 1) (.v 0)) (.no (.eq (.c 2) (.v 0)) (.fork (.eq (.c 4) (.v 1)) (.no (.eq (.c 3) (.v 0)) (.no (.eq (.c 3) (.v 1)) (.is (.wr .u8 (.v 0)) (.c 1) .done))) (.no (.eq (.c 3) (.v 0)) (.yes (.eq (.c 3) (.v 1)) (.is (.wr .u8 (.v 0)) (.c 1) .done))))) n6T2)

def n6T4 : Pt := (.fork (.eq (.c 2) (.v 1)) n6T1 n6T3)

def n6T5 : Pt := (.fork (.eq (.c 0) (.v 0)) n6T0 n6T4)

def n6T6 : Pt := (.fork (.lt (.c 4) (.v 1)) .done n6T5)

def n6T7 : Pt := (.fork (.lt (.v 1) (.c 2)) .done n6T6)

def n6T8 : Pt := (.fork (.lt (.c 3) (.v 0)) .done n6T7)

def n6T9 : Pt := (.fork (.lt (.v 0) (.c 0)) .done n6T8)

def n6R0 : Pt := (.fork (.eq (.c 3) (.v 1)) (.fork (.eq (.c 2) (.v 0)) .done (.yes (.eq (.c 3) (.v 0)) .done)) (.fork (.eq (.c 2) (.v 0)) (.yes (.eq (.c 4) (.v 1)) .done) (.yes (.eq (.c 4) (.v 1)) (.yes (.eq (.c 3) (.v 0)) .done))))

def n6R1 : Pt := (.fork (.eq (.c 1) (.v 0)) (.fork (.eq (.c 4) (.v 1)) .done (.yes (.eq (.c 3) (.v 1)) .done)) n6R0)

def n6R2 : Pt := (.fork (.eq (.c 2) (.v 1)) (.fork (.eq (.c 1) (.v 0)) .done (.fork (.eq (.c 2) (.v 0)) .done (.yes (.eq (.c 3) (.v 0)) .done))) n6R1)

def n6R3 : Pt := (.fork (.eq (.c 0) (.v 0)) (.fork (.eq (.c 3) (.v 1)) .done (.fork (.eq (.c 4) (.v 1)) .done (.yes (.eq (.c 2) (.v 1)) .done))) n6R2)

def n6R4 : Pt := (.fork (.lt (.c 4) (.v 1)) .done n6R3)

def n6R5 : Pt := (.fork (.lt (.v 1) (.c 2)) .done n6R4)

def n6R6 : Pt := (.fork (.lt (.c 3) (.v 0)) .done n6R5)

def n6R7 : Pt := (.fork (.lt (.v 0) (.c 0)) .done n6R6)

theorem n6o0 (a2 : Int) (h0 : (-9223372036854775808 : Int) ≤ a2) (h1 : a2 ≤ (9223372036854775807 : Int)) (h2 : ¬ a2 < (2 : Int)) (h3 : ¬ (4 : Int) < a2) (h4 : ¬ (3 : Int) = a2) (h5 : ¬ (4 : Int) = a2) : (2 : Int) = a2 := by omega

theorem n6o1 (a1 : Int) (h0 : (-9223372036854775808 : Int) ≤ a1) (h1 : a1 ≤ (9223372036854775807 : Int)) (h2 : ¬ a1 < (0 : Int)) (h3 : ¬ (3 : Int) < a1) (h4 : ¬ (0 : Int) = a1) (h5 : ¬ (1 : Int) = a1) (h6 : ¬ (2 : Int) = a1) : (3 : Int) = a1 := by omega

theorem n6o2 (a2 : Int) (h0 : (-9223372036854775808 : Int) ≤ a2) (h1 : a2 ≤ (9223372036854775807 : Int)) (h2 : ¬ a2 < (2 : Int)) (h3 : ¬ (4 : Int) < a2) (h4 : ¬ (2 : Int) = a2) (h5 : ¬ (4 : Int) = a2) : (3 : Int) = a2 := by omega

theorem n6o3 (a2 : Int) (h0 : (-9223372036854775808 : Int) ≤ a2) (h1 : a2 ≤ (9223372036854775807 : Int)) (h2 : ¬ a2 < (2 : Int)) (h3 : ¬ (4 : Int) < a2) (h4 : ¬ (2 : Int) = a2) (h5 : ¬ (3 : Int) = a2) : (4 : Int) = a2 := by omega

theorem n6t0 (a1 a2 : Int) (l0 : (-9223372036854775808 : Int) ≤ a1) (u0 : a1 ≤ (9223372036854775807 : Int)) (l1 : (-9223372036854775808 : Int) ≤ a2) (u1 : a2 ≤ (9223372036854775807 : Int)) : n6R7.holds [a1, a2] := by
  refine Pt.h_fork (fun (f0 : a1 < (0 : Int)) => ?_) (fun (f0 : ¬ a1 < (0 : Int)) => ?_)
  · skip
    exact Pt.h_done
  · skip
    refine Pt.h_fork (fun (f1 : (3 : Int) < a1) => ?_) (fun (f1 : ¬ (3 : Int) < a1) => ?_)
    · skip
      exact Pt.h_done
    · skip
      refine Pt.h_fork (fun (f2 : a2 < (2 : Int)) => ?_) (fun (f2 : ¬ a2 < (2 : Int)) => ?_)
      · skip
        exact Pt.h_done
      · skip
        refine Pt.h_fork (fun (f3 : (4 : Int) < a2) => ?_) (fun (f3 : ¬ (4 : Int) < a2) => ?_)
        · skip
          exact Pt.h_done
        · skip
          refine Pt.h_fork (fun (f4 : (0 : Int) = a1) => ?_) (fun (f4 : ¬ (0 : Int) = a1) => ?_)
          · skip
            refine Pt.h_fork (fun (f5 : (3 : Int) = a2) => ?_) (fun (f5 : ¬ (3 : Int) = a2) => ?_)
            · skip
              exact Pt.h_done
            · skip
              refine Pt.h_fork (fun (f6 : (4 : Int) = a2) => ?_) (fun (f6 : ¬ (4 : Int) = a2) => ?_)
              · skip
                exact Pt.h_done
              · skip
                refine Pt.h_yes (show (2 : Int) = a2 from (n6o0 a2 l1 u1 f2 f3 f5 f6)) ?_
                exact Pt.h_done
          · skip
            refine Pt.h_fork (fun (f5 : (2 : Int) = a2) => ?_) (fun (f5 : ¬ (2 : Int) = a2) => ?_)
            · skip
              refine Pt.h_fork (fun (f6 : (1 : Int) = a1) => ?_) (fun (f6 : ¬ (1 : Int) = a1) => ?_)
              · skip
                exact Pt.h_done
              · skip
                refine Pt.h_fork (fun (f7 : (2 : Int) = a1) => ?_) (fun (f7 : ¬ (2 : Int) = a1) => ?_)
                · skip
                  exact Pt.h_done
                · skip
                  refine Pt.h_yes (show (3 : Int) = a1 from (n6o1 a1 l0 u0 f0 f1 f4 f6 f7)) ?_
                  exact Pt.h_done
            · skip
              refine Pt.h_fork (fun (f6 : (1 : Int) = a1) => ?_) (fun (f6 : ¬ (1 : Int) = a1) => ?_)
              · skip
                refine Pt.h_fork (fun (f7 : (4 : Int) = a2) => ?_) (fun (f7 : ¬ (4 : Int) = a2) => ?_)
                · skip
                  exact Pt.h_done
                · skip
                  refine Pt.h_yes (show (3 : Int) = a2 from (n6o2 a2 l1 u1 f2 f3 f5 f7)) ?_
                  exact Pt.h_done
              · skip
                refine Pt.h_fork (fun (f7 : (3 : Int) = a2) => ?_) (fun (f7 : ¬ (3 : Int) = a2) => ?_)
                · skip
                  refine Pt.h_fork (fun (f8 : (2 : Int) = a1) => ?_) (fun (f8 : ¬ (2 : Int) = a1) => ?_)
                  · skip
                    exact Pt.h_done
                  · skip
                    refine Pt.h_yes (show (3 : Int) = a1 from (n6o1 a1 l0 u0 f0 f1 f4 f6 f8)) ?_
                    exact Pt.h_done
                · skip
                  refine Pt.h_fork (fun (f8 : (2 : Int) = a1) => ?_) (fun (f8 : ¬ (2 : Int) = a1) => ?_)
                  · skip
                    refine Pt.h_yes (show (4 : Int) = a2 from (n6o3 a2 l1 u1 f2 f3 f5 f7)) ?_
                    exact Pt.h_done
                  · skip
                    refine Pt.h_yes (show (4 : Int) = a2 from (n6o3 a2 l1 u1 f2 f3 f5 f7)) ?_
                    refine Pt.h_yes (show (3 : Int) = a1 from (n6o1 a1 l0 u0 f0 f1 f4 f6 f8)) ?_
                    exact Pt.h_done

theorem n6rest : auto n6T9 [(-9223372036854775808, 9223372036854775807), (-9223372036854775808, 9223372036854775807)] = n6R7 := by kernel_rfl
theorem n6all (a1 a2 : Int) (l0 : (-9223372036854775808 : Int) ≤ a1) (u0 : a1 ≤ (9223372036854775807 : Int)) (l1 : (-9223372036854775808 : Int) ≤ a2) (u1 : a2 ≤ (9223372036854775807 : Int))  : n6T9.holds [a1, a2] :=
  holds_auto n6rest (fits_cons l0 u0 (fits_cons l1 u1 fits_nil)) (n6t0 a1 a2 l0 u0 l1 u1 )

def n7T0 : Pt := (.no (.eq (.c 1) (.v 0)) (.fork (.eq (.c 3) (.v 1)) (.no (.eq (.c 2) (.v 0)) (.no (.eq (.c 4) (.v 1)) (.no (.eq (.c 3) (.v 0)) (.no (.eq (.c 2) (.v 1)) (.is (.wr .u8 (.v 0)) (.c 0) .done))))) (.no (.eq (.c 2) (.v 0)) (.fork (.eq (.c 4) (.v 1)) (.no (.eq (.c 3) (.v 0)) (.no (.eq (.c 2) (.v 1)) (.is (.wr .u8 (.v 0)) (.c 0) .done))) (.no (.eq (.c 3) (.v 0)) (.yes (.eq (.c 2) (.v 1)) (.is (.wr .u8 (.v 0)) (.c 0) .done)))))))

def n7T1 : Pt := (.fork (.eq (.c 1) (.v 0)) (.no (.eq (.c 2) (.v 0)) (.no (.eq (.c 4) (.v 1)) (.no (.eq (.c 3) (.v 0)) (.no (.eq (.c 3) (.v 1)) (.is (.wr .u8 (.v 0)) (.c 1) .done))))) (.no (.eq (.c 3) (.v 1)) (.fork (.eq (.c 2) (.v 0)) (.no (.eq (.c 4) (.v 1)) (.no (.eq (.c 3) (.v 0)) (.is (.wr .u8 (.v 0)) (.c 2) .done))) (.no (.eq (.c 4) (.v 1)) (.yes (.eq (.c 3) (.v 0)) (.is (.wr .u8 (.v 0)) (.c 3) .done))))))

def n7T2 : Pt := (.fork (.eq (.c 3) (.v 1)) (.fork (.eq (.c 2) (.v 0)) (.no (.eq (.c 4) (.v 1)) (.no (.eq (.c 3) (.v 0)) (.is (.wr .u8 (.v 0)) (.c 2) .done))) (.no (.eq (.c 4) (.v 1)) (.yes (.eq (.c 3) (.v 0)) (.is (.wr .u8 (.v 0)) (.c 3) .done)))) (.fork (.eq (.c 2) (.v 0)) (.yes (.eq (.c 4) (.v 1)) (.no (.eq (.c 3) (.v 0)) (.is (.wr .u8 (.v 0)) (.c 2) .done))) (.yes (.eq (.c 4) (.v 1)) (.yes (.eq (.c 3) (.v 0)) (.is (.wr .u8 (.v 0)) (.c 3) .done)))))

def n7T3 : Pt := (.fork (.eq (.c 1) (.v 0)) (.no (.eq (.c 2) (.v 0)) (.fork (.eq (.c 4) (.v 1)) (.no (.eq (.c 3) (.v 0)) (.no (.eq (.c 3) (.v 1)) (.is (.wr .u8 (.v 0)) (.c 1) .done))) (.no (.eq (.c 3) (.v 0)) (.yes (.eq (.c 3) (.v 1)) (.is (.wr .u8 (.v 0)) (.c 1) .done))))) n7T2)

def n7T4 : Pt := (.fork (.eq (.c 2) (.v 1)) n7T1 n7T3)

def n7T5 : Pt := (.fork (.eq (.c 0) (.v 0)) n7T0 n7T4)

def n7T6 : Pt := (.fork (.lt (.c 4) (.v 1)) .done n7T5)

def n7T7 : Pt := (.fork (.lt (.v 1) (.c 2)) .done n7T6)

def n7T8 : Pt := (.fork (.lt (.c 3) (.v 0)) .done n7T7)

def n7T9 : Pt := (.fork (.lt (.v 0) (.c 0)) .done n7T8)

def n7R0 : Pt := (.fork (.eq (.c 3) (.v 1)) (.fork (.eq (.c 2) (.v 0)) .done (.yes (.eq (.c 3) (.v 0)) .done)) (.fork (.eq (.c 2) (.v 0)) (.yes (.eq (.c 4) (.v 1)) .done) (.yes (.eq (.c 4) (.v 1)) (.yes (.eq (.c 3) (.v 0)) .done))))

def n7R1 : Pt := (.fork (.eq (.c 1) (.v 0)) (.fork (.eq (.c 4) (.v 1)) .done (.yes (.eq (.c 3) (.v 1)) .done)) n7R0)

def n7R2 : Pt := (.fork (.eq (.c 2) (.v 1)) (.fork (.eq (.c 1) (.v 0)) .done (.fork (.eq (.c 2) (.v 0)) .done (.yes (.eq (.c 3) (.v 0)) .done))) n7R1)

def n7R3 : Pt := (.fork (.eq (.c 0) (.v 0)) (.fork (.eq (.c 3) (.v 1)) .done (.fork (.eq (.c 4) (.v 1)) .done (.yes (.eq (.c 2) (.v 1)) .done))) n7R2)

def n7R4 : Pt := (.fork (.lt (.c 4) (.v 1)) .done n7R3)

def n7R5 : Pt := (.fork (.lt (.v 1) (.c 2)) .done n7R4)

def n7R6 : Pt := (.fork (.lt (.c 3) (.v 0)) .done n7R5)

def n7R7 : Pt := (.fork (.lt (.v 0) (.c 0)) .done n7R6)

theorem n7o0 (a2 : Int) (h0 : (-9223372036854775808 : Int) ≤ a2) (h1 : a2 ≤ (9223372036854775807 : Int)) (h2 : ¬ a2 < (2 : Int)) (h3 : ¬ (4 : Int) < a2) (h4 : ¬ (3 : Int) = a2) (h5 : ¬ (4 : Int) = a2) : (2 : Int) = a2 := by omega

theorem n7o1 (a1 : Int) (h0 : (-9223372036854775808 : Int) ≤ a1) (h1 : a1 ≤ (9223372036854775807 : Int)) (h2 : ¬ a1 < (0 : Int)) (h3 : ¬ (3 : Int) < a1) (h4 : ¬ (0 : Int) = a1) (h5 : ¬ (1 : Int) = a1) (h6 : ¬ (2 : Int) = a1) : (3 : Int) = a1 := by omega

theorem n7o2 (a2 : Int) (h0 : (-9223372036854775808 : Int) ≤ a2) (h1 : a2 ≤ (9223372036854775807 : Int)) (h2 : ¬ a2 < (2 : Int)) (h3 : ¬ (4 : Int) < a2) (h4 : ¬ (2 : Int) = a2) (h5 : ¬ (4 : Int) = a2) : (3 : Int) = a2 := by omega

theorem n7o3 (a2 : Int) (h0 : (-9223372036854775808 : Int) ≤ a2) (h1 : a2 ≤ (9223372036854775807 : Int)) (h2 : ¬ a2 < (2 : Int)) (h3 : ¬ (4 : Int) < a2) (h4 : ¬ (2 : Int) = a2) (h5 : ¬ (3 : Int) = a2) : (4 : Int) = a2 := by omega

theorem n7t0 (a1 a2 : Int) (l0 : (-9223372036854775808 : Int) ≤ a1) (u0 : a1 ≤ (9223372036854775807 : Int)) (l1 : (-9223372036854775808 : Int) ≤ a2) (u1 : a2 ≤ (9223372036854775807 : Int)) : n7R7.holds [a1, a2] := by
  refine Pt.h_fork (fun (f0 : a1 < (0 : Int)) => ?_) (fun (f0 : ¬ a1 < (0 : Int)) => ?_)
  · skip
    exact Pt.h_done
  · skip
    refine Pt.h_fork (fun (f1 : (3 : Int) < a1) => ?_) (fun (f1 : ¬ (3 : Int) < a1) => ?_)
    · skip
      exact Pt.h_done
    · skip
      refine Pt.h_fork (fun (f2 : a2 < (2 : Int)) => ?_) (fun (f2 : ¬ a2 < (2 : Int)) => ?_)
      · skip
        exact Pt.h_done
      · skip
        refine Pt.h_fork (fun (f3 : (4 : Int) < a2) => ?_) (fun (f3 : ¬ (4 : Int) < a2) => ?_)
        · skip
          exact Pt.h_done
        · skip
          refine Pt.h_fork (fun (f4 : (0 : Int) = a1) => ?_) (fun (f4 : ¬ (0 : Int) = a1) => ?_)
          · skip
            refine Pt.h_fork (fun (f5 : (3 : Int) = a2) => ?_) (fun (f5 : ¬ (3 : Int) = a2) => ?_)
            · skip
              exact Pt.h_done
            · skip
              refine Pt.h_fork (fun (f6 : (4 : Int) = a2) => ?_) (fun (f6 : ¬ (4 : Int) = a2) => ?_)
              · skip
                exact Pt.h_done
              · skip
                refine Pt.h_yes (show (2 : Int) = a2 from (n7o0 a2 l1 u1 f2 f3 f5 f6)) ?_
                exact Pt.h_done
          · skip
            refine Pt.h_fork (fun (f5 : (2 : Int) = a2) => ?_) (fun (f5 : ¬ (2 : Int) = a2) => ?_)
            · skip
              refine Pt.h_fork (fun (f6 : (1 : Int) = a1) => ?_) (fun (f6 : ¬ (1 : Int) = a1) => ?_)
              · skip
                exact Pt.h_done
              · skip
                refine Pt.h_fork (fun (f7 : (2 : Int) = a1) => ?_) (fun (f7 : ¬ (2 : Int) = a1) => ?_)
                · skip
                  exact Pt.h_done
                · skip
                  refine Pt.h_yes (show (3 : Int) = a1 from (n7o1 a1 l0 u0 f0 f1 f4 f6 f7)) ?_
                  exact Pt.h_done
            · skip
              refine Pt.h_fork (fun (f6 : (1 : Int) = a1) => ?_) (fun (f6 : ¬ (1 : Int) = a1) => ?_)
              · skip
                refine Pt.h_fork (fun (f7 : (4 : Int) = a2) => ?_) (fun (f7 : ¬ (4 : Int) = a2) => ?_)
                · skip
                  exact Pt.h_done
                · skip
                  refine Pt.h_yes (show (3 : Int) = a2 from (n7o2 a2 l1 u1 f2 f3 f5 f7)) ?_
                  exact Pt.h_done
              · skip
                refine Pt.h_fork (fun (f7 : (3 : Int) = a2) => ?_) (fun (f7 : ¬ (3 : Int) = a2) => ?_)
                · skip
                  refine Pt.h_fork (fun (f8 : (2 : Int) = a1) => ?_) (fun (f8 : ¬ (2 : Int) = a1) => ?_)
                  · skip
                    exact Pt.h_done
                  · skip
                    refine Pt.h_yes (show (3 : Int) = a1 from (n7o1 a1 l0 u0 f0 f1 f4 f6 f8)) ?_
                    exact Pt.h_done
                · skip
                  refine Pt.h_fork (fun (f8 : (2 : Int) = a1) => ?_) (fun (f8 : ¬ (2 : Int) = a1) => ?_)
                  · skip
                    refine Pt.h_yes (show (4 : Int) = a2 from (n7o3 a2 l1 u1 f2 f3 f5 f7)) ?_
                    exact Pt.h_done
                  · skip
                    refine Pt.h_yes (show (4 : Int) = a2 from (n7o3 a2 l1 u1 f2 f3 f5 f7)) ?_
                    refine Pt.h_yes (show (3 : Int) = a1 from (n7o1 a1 l0 u0 f0 f1 f4 f6 f8)) ?_
                    exact Pt.h_done

theorem n7rest : auto n7T9 [(-9223372036854775808, 9223372036854775807), (-9223372036854775808, 9223372036854775807)] = n7R7 := by kernel_rfl
theorem n7all (a1 a2 : Int) (l0 : (-9223372036854775808 : Int) ≤ a1) (u0 : a1 ≤ (9223372036854775807 : Int)) (l1 : (-9223372036854775808 : Int) ≤ a2) (u1 : a2 ≤ (9223372036854775807 : Int))  : n7T9.holds [a1, a2] :=
  holds_auto n7rest (fits_cons l0 u0 (fits_cons l1 u1 fits_nil)) (n7t0 a1 a2 l0 u0 l1 u1 )

def n8T0 : Pt := (.no (.eq (.c 1) (.v 0)) (.fork (.eq (.c 3) (.v 1)) (.no (.eq (.c 2) (.v 0)) (.no (.eq (.c 4) (.v 1)) (.no (.eq (.c 3) (.v 0)) (.no (.eq (.c 2) (.v 1)) (.is (.wr .u8 (.v 0)) (.c 0) .done))))) (.no (.eq (.c 2) (.v 0)) (.fork (.eq (.c 4) (.v 1)) (.no (.eq (.c 3) (.v 0)) (.no (.eq (.c 2) (.v 1)) (.is (.wr .u8 (.v 0)) (.c 0) .done))) (.no (.eq (.c 3) (.v 0)) (.yes (.eq (.c 2) (.v 1)) (.is (.wr .u8 (.v 0)) (.c 0) .done)))))))

def n8T1 : Pt := (.fork (.eq (.c 1) (.v 0)) (.no (.eq (.c 2) (.v 0)) (.no (.eq (.c 4) (.v 1)) (.no (.eq (.c 3) (.v 0)) (.no (.eq (.c 3) (.v 1)) (.is (.wr .u8 (.v 0)) (.c 1) .done))))) (.no (.eq (.c 3) (.v 1)) (.fork (.eq (.c 2) (.v 0)) (.no (.eq (.c 4) (.v 1)) (.no (.eq (.c 3) (.v 0)) (.is (.wr .u8 (.v 0)) (.c 2) .done))) (.no (.eq (.c 4) (.v 1)) (.yes (.eq (.c 3) (.v 0)) (.is (.wr .u8 (.v 0)) (.c 3) .done))))))

def n8T2 : Pt := (.fork (.eq (.c 3) (.v 1)) (.fork (.eq (.c 2) (.v 0)) (.no (.eq (.c 4) (.v 1)) (.no (.eq (.c 3) (.v 0)) (.is (.wr .u8 (.v 0)) (.c 2) .done))) (.no (.eq (.c 4) (.v 1)) (.yes (.eq (.c 3) (.v 0)) (.is (.wr .u8 (.v 0)) (.c 3) .done)))) (.fork (.eq (.c 2) (.v 0)) (.yes (.eq (.c 4) (.v 1)) (.no (.eq (.c 3) (.v 0)) (.is (.wr .u8 (.v 0)) (.c 2) .done))) (.yes (.eq (.c 4) (.v 1)) (.yes (.eq (.c 3) (.v 0)) (.is (.wr .u8 (.v 0)) (.c 3) .done)))))

def n8T3 : Pt := (.fork (.eq (.c 1) (.v 0)) (.no (.eq (.c 2) (.v 0)) (.fork (.eq (.c 4) (.v 1)) (.no (.eq (.c 3) (.v 0)) (.no (.eq (.c 3) (.v 1)) (.is (.wr .u8 (.v 0)) (.c 1) .done))) (.no (.eq (.c 3) (.v 0)) (.yes (.eq (.c 3) (.v 1)) (.is (.wr .u8 (.v 0)) (.c 1) .done))))) n8T2)

def n8T4 : Pt := (.fork (.eq (.c 2) (.v 1)) n8T1 n8T3)

def n8T5 : Pt := (.fork (.eq (.c 0) (.v 0)) n8T0 n8T4)

def n8T6 : Pt := (.fork (.lt (.c 4) (.v 1)) .done n8T5)

def n8T7 : Pt := (.fork (.lt (.v 1) (.c 2)) .done n8T6)

def n8T8 : Pt := (.fork (.lt (.c 3) (.v 0)) .done n8T7)

def n8T9 : Pt := (.fork (.lt (.v 0) (.c 0)) .done n8T8)

def n8R0 : Pt := (.fork (.eq (.c 3) (.v 1)) (.fork (.eq (.c 2) (.v 0)) .done (.yes (.eq (.c 3) (.v 0)) .done)) (.fork (.eq (.c 2) (.v 0)) (.yes (.eq (.c 4) (.v 1)) .done) (.yes (.eq (.c 4) (.v 1)) (.yes (.eq (.c 3) (.v 0)) .done))))

def n8R1 : Pt := (.fork (.eq (.c 1) (.v 0)) (.fork (.eq (.c 4) (.v 1)) .done (.yes (.eq (.c 3) (.v 1)) .done)) n8R0)

def n8R2 : Pt := (.fork (.eq (.c 2) (.v 1)) (.fork (.eq (.c 1) (.v 0)) .done (.fork (.eq (.c 2) (.v 0)) .done (.yes (.eq (.c 3) (.v 0)) .done))) n8R1)

def n8R3 : Pt := (.fork (.eq (.c 0) (.v 0)) (.fork (.eq (.c 3) (.v 1)) .done (.fork (.eq (.c 4) (.v 1)) .done (.yes (.eq (.c 2) (.v 1)) .done))) n8R2)

def n8R4 : Pt := (.fork (.lt (.c 4) (.v 1)) .done n8R3)

def n8R5 : Pt := (.fork (.lt (.v 1) (.c 2)) .done n8R4)

def n8R6 : Pt := (.fork (.lt (.c 3) (.v 0)) .done n8R5)

def n8R7 : Pt := (.fork (.lt (.v 0) (.c 0)) .done n8R6)

theorem n8o0 (a2 : Int) (h0 : (-9223372036854775808 : Int) ≤ a2) (h1 : a2 ≤ (9223372036854775807 : Int)) (h2 : ¬ a2 < (2 : Int)) (h3 : ¬ (4 : Int) < a2) (h4 : ¬ (3 : Int) = a2) (h5 : ¬ (4 : Int) = a2) : (2 : Int) = a2 := by omega

theorem n8o1 (a1 : Int) (h0 : (-9223372036854775808 : Int) ≤ a1) (h1 : a1 ≤ (9223372036854775807 : Int)) (h2 : ¬ a1 < (0 : Int)) (h3 : ¬ (3 : Int) < a1) (h4 : ¬ (0 : Int) = a1) (h5 : ¬ (1 : Int) = a1) (h6 : ¬ (2 : Int) = a1) : (3 : Int) = a1 := by omega

theorem n8o2 (a2 : Int) (h0 : (-9223372036854775808 : Int) ≤ a2) (h1 : a2 ≤ (9223372036854775807 : Int)) (h2 : ¬ a2 < (2 : Int)) (h3 : ¬ (4 : Int) < a2) (h4 : ¬ (2 : Int) = a2) (h5 : ¬ (4 : Int) = a2) : (3 : Int) = a2 := by omega

theorem n8o3 (a2 : Int) (h0 : (-9223372036854775808 : Int) ≤ a2) (h1 : a2 ≤ (9223372036854775807 : Int)) (h2 : ¬ a2 < (2 : Int)) (h3 : ¬ (4 : Int) < a2) (h4 : ¬ (2 : Int) = a2) (h5 : ¬ (3 : Int) = a2) : (4 : Int) = a2 := by omega

theorem n8t0 (a1 a2 : Int) (l0 : (-9223372036854775808 : Int) ≤ a1) (u0 : a1 ≤ (9223372036854775807 : Int)) (l1 : (-9223372036854775808 : Int) ≤ a2) (u1 : a2 ≤ (9223372036854775807 : Int)) : n8R7.holds [a1, a2] := by
  refine Pt.h_fork (fun (f0 : a1 < (0 : Int)) => ?_) (fun (f0 : ¬ a1 < (0 : Int)) => ?_)
  · skip
    exact Pt.h_done
  · skip
    refine Pt.h_fork (fun (f1 : (3 : Int) < a1) => ?_) (fun (f1 : ¬ (3 : Int) < a1) => ?_)
    · skip
      exact Pt.h_done
    · skip
      refine Pt.h_fork (fun (f2 : a2 < (2 : Int)) => ?_) (fun (f2 : ¬ a2 < (2 : Int)) => ?_)
      · skip
        exact Pt.h_done
      · skip
        refine Pt.h_fork (fun (f3 : (4 : Int) < a2) => ?_) (fun (f3 : ¬ (4 : Int) < a2) => ?_)
        · skip
          exact Pt.h_done
        · skip
          refine Pt.h_fork (fun (f4 : (0 : Int) = a1) => ?_) (fun (f4 : ¬ (0 : Int) = a1) => ?_)
          · skip
            refine Pt.h_fork (fun (f5 : (3 : Int) = a2) => ?_) (fun (f5 : ¬ (3 : Int) = a2) => ?_)
            · skip
              exact Pt.h_done
            · skip
              refine Pt.h_fork (fun (f6 : (4 : Int) = a2) => ?_) (fun (f6 : ¬ (4 : Int) = a2) => ?_)
              · skip
                exact Pt.h_done
              · skip
                refine Pt.h_yes (show (2 : Int) = a2 from (n8o0 a2 l1 u1 f2 f3 f5 f6)) ?_
                exact Pt.h_done
          · skip
            refine Pt.h_fork (fun (f5 : (2 : Int) = a2) => ?_) (fun (f5 : ¬ (2 : Int) = a2) => ?_)
            · skip
              refine Pt.h_fork (fun (f6 : (1 : Int) = a1) => ?_) (fun (f6 : ¬ (1 : Int) = a1) => ?_)
              · skip
                exact Pt.h_done
              · skip
                refine Pt.h_fork (fun (f7 : (2 : Int) = a1) => ?_) (fun (f7 : ¬ (2 : Int) = a1) => ?_)
                · skip
                  exact Pt.h_done
                · skip
                  refine Pt.h_yes (show (3 : Int) = a1 from (n8o1 a1 l0 u0 f0 f1 f4 f6 f7)) ?_
                  exact Pt.h_done
            · skip
              refine Pt.h_fork (fun (f6 : (1 : Int) = a1) => ?_) (fun (f6 : ¬ (1 : Int) = a1) => ?_)
              · skip
                refine Pt.h_fork (fun (f7 : (4 : Int) = a2) => ?_) (fun (f7 : ¬ (4 : Int) = a2) => ?_)
                · skip
                  exact Pt.h_done
                · skip
                  refine Pt.h_yes (show (3 : Int) = a2 from (n8o2 a2 l1 u1 f2 f3 f5 f7)) ?_
                  exact Pt.h_done
              · skip
                refine Pt.h_fork (fun (f7 : (3 : Int) = a2) => ?_) (fun (f7 : ¬ (3 : Int) = a2) => ?_)
                · skip
                  refine Pt.h_fork (fun (f8 : (2 : Int) = a1) => ?_) (fun (f8 : ¬ (2 : Int) = a1) => ?_)
                  · skip
                    exact Pt.h_done
                  · skip
                    refine Pt.h_yes (show (3 : Int) = a1 from (n8o1 a1 l0 u0 f0 f1 f4 f6 f8)) ?_
                    exact Pt.h_done
                · skip
                  refine Pt.h_fork (fun (f8 : (2 : Int) = a1) => ?_) (fun (f8 : ¬ (2 : Int) = a1) => ?_)
                  · skip
                    refine Pt.h_yes (show (4 : Int) = a2 from (n8o3 a2 l1 u1 f2 f3 f5 f7)) ?_
                    exact Pt.h_done
                  · skip
                    refine Pt.h_yes (show (4 : Int) = a2 from (n8o3 a2 l1 u1 f2 f3 f5 f7)) ?_
                    refine Pt.h_yes (show (3 : Int) = a1 from (n8o1 a1 l0 u0 f0 f1 f4 f6 f8)) ?_
                    exact Pt.h_done

theorem n8rest : auto n8T9 [(-9223372036854775808, 9223372036854775807), (-9223372036854775808, 9223372036854775807)] = n8R7 := by kernel_rfl
theorem n8all (a1 a2 : Int) (l0 : (-9223372036854775808 : Int) ≤ a1) (u0 : a1 ≤ (9223372036854775807 : Int)) (l1 : (-9223372036854775808 : Int) ≤ a2) (u1 : a2 ≤ (9223372036854775807 : Int))  : n8T9.holds [a1, a2] :=
  holds_auto n8rest (fits_cons l0 u0 (fits_cons l1 u1 fits_nil)) (n8t0 a1 a2 l0 u0 l1 u1 )

def n9T0 : Pt := (.no (.eq (.c 1) (.v 0)) (.fork (.eq (.c 3) (.v 1)) (.no (.eq (.c 2) (.v 0)) (.no (.eq (.c 4) (.v 1)) (.no (.eq (.c 3) (.v 0)) (.no (.eq (.c 2) (.v 1)) (.is (.wr .u8 (.v 0)) (.c 0) .done))))) (.no (.eq (.c 2) (.v 0)) (.fork (.eq (.c 4) (.v 1)) (.no (.eq (.c 3) (.v 0)) (.no (.eq (.c 2) (.v 1)) (.is (.wr .u8 (.v 0)) (.c 0) .done))) (.no (.eq (.c 3) (.v 0)) (.yes (.eq (.c 2) (.v 1)) (.is (.wr .u8 (.v 0)) (.c 0) .done)))))))

def n9T1 : Pt := (.fork (.eq (.c 1) (.v 0)) (.no (.eq (.c 2) (.v 0)) (.no (.eq (.c 4) (.v 1)) (.no (.eq (.c 3) (.v 0)) (.no (.eq (.c 3) (.v 1)) (.is (.wr .u8 (.v 0)) (.c 1) .done))))) (.no (.eq (.c 3) (.v 1)) (.fork (.eq (.c 2) (.v 0)) (.no (.eq (.c 4) (.v 1)) (.no (.eq (.c 3) (.v 0)) (.is (.wr .u8 (.v 0)) (.c 2) .done))) (.no (.eq (.c 4) (.v 1)) (.yes (.eq (.c 3) (.v 0)) (.is (.wr .u8 (.v 0)) (.c 3) .done))))))

def n9T2 : Pt := (.fork (.eq (.c 3) (.v 1)) (.fork (.eq (.c 2) (.v 0)) (.no (.eq (.c 4) (.v 1)) (.no (.eq (.c 3) (.v 0)) (.is (.wr .u8 (.v 0)) (.c 2) .done))) (.no (.eq (.c 4) (.v 1)) (.yes (.eq (.c 3) (.v 0)) (.is (.wr .u8 (.v 0)) (.c 3) .done)))) (.fork (.eq (.c 2) (.v 0)) (.yes (.eq (.c 4) (.v 1)) (.no (.eq (.c 3) (.v 0)) (.is (.wr .u8 (.v 0)) (.c 2) .done))) (.yes (.eq (.c 4) (.v 1)) (.yes (.eq (.c 3) (.v 0)) (.is (.wr .u8 (.v 0)) (.c 3) .done)))))

def n9T3 : Pt := (.fork (.eq (.c 1) (.v 0)) (.no (.eq (.c 2) (.v 0)) (.fork (.eq (.c 4) (.v 1)) (.no (.eq (.c 3) (.v 0)) (.no (.eq (.c 3) (.v 1)) (.is (.wr .u8 (.v 0)) (.c 1) .done))) (.no (.eq (.c 3) (.v 0)) (.yes (.eq (.c 3) (.v 1)) (.is (.wr .u8 (.v 0)) (.c 1) .done))))) n9T2)

def n9T4 : Pt := (.fork (.eq (.c 2) (.v 1)) n9T1 n9T3)

def n9T5 : Pt := (.fork (.eq (.c 0) (.v 0)) n9T0 n9T4)

def n9T6 : Pt := (.fork (.lt (.c 4) (.v 1)) .done n9T5)

def n9T7 : Pt := (.fork (.lt (.v 1) (.c 2)) .done n9T6)

def n9T8 : Pt := (.fork (.lt (.c 3) (.v 0)) .done n9T7)

def n9T9 : Pt := (.fork (.lt (.v 0) (.c 0)) .done n9T8)

def n9R0 : Pt := (.fork (.eq (.c 3) (.v 1)) (.fork (.eq (.c 2) (.v 0)) .done (.yes (.eq (.c 3) (.v 0)) .done)) (.fork (.eq (.c 2) (.v 0)) (.yes (.eq (.c 4) (.v 1)) .done) (.yes (.eq (.c 4) (.v 1)) (.yes (.eq (.c 3) (.v 0)) .done))))

def n9R1 : Pt := (.fork (.eq (.c 1) (.v 0)) (.fork (.eq (.c 4) (.v 1)) .done (.yes (.eq (.c 3) (.v 1)) .done)) n9R0)

def n9R2 : Pt := (.fork (.eq (.c 2) (.v 1)) (.fork (.eq (.c 1) (.v 0)) .done (.fork (.eq (.c 2) (.v 0)) .done (.yes (.eq (.c 3) (.v 0)) .done))) n9R1)

def n9R3 : Pt := (.fork (.eq (.c 0) (.v 0)) (.fork (.eq (.c 3) (.v 1)) .done (.fork (.eq (.c 4) (.v 1)) .done (.yes (.eq (.c 2) (.v 1)) .done))) n9R2)

def n9R4 : Pt := (.fork (.lt (.c 4) (.v 1)) .done n9R3)

def n9R5 : Pt := (.fork (.lt (.v 1) (.c 2)) .done n9R4)

def n9R6 : Pt := (.fork (.lt (.c 3) (.v 0)) .done n9R5)

def n9R7 : Pt := (.fork (.lt (.v 0) (.c 0)) .done n9R6)

theorem n9o0 (a2 : Int) (h0 : (-9223372036854775808 : Int) ≤ a2) (h1 : a2 ≤ (9223372036854775807 : Int)) (h2 : ¬ a2 < (2 : Int)) (h3 : ¬ (4 : Int) < a2) (h4 : ¬ (3 : Int) = a2) (h5 : ¬ (4 : Int) = a2) : (2 : Int) = a2 := by omega

theorem n9o1 (a1 : Int) (h0 : (-9223372036854775808 : Int) ≤ a1) (h1 : a1 ≤ (9223372036854775807 : Int)) (h2 : ¬ a1 < (0 : Int)) (h3 : ¬ (3 : Int) < a1) (h4 : ¬ (0 : Int) = a1) (h5 : ¬ (1 : Int) = a1) (h6 : ¬ (2 : Int) = a1) : (3 : Int) = a1 := by omega

theorem n9o2 (a2 : Int) (h0 : (-9223372036854775808 : Int) ≤ a2) (h1 : a2 ≤ (9223372036854775807 : Int)) (h2 : ¬ a2 < (2 : Int)) (h3 : ¬ (4 : Int) < a2) (h4 : ¬ (2 : Int) = a2) (h5 : ¬ (4 : Int) = a2) : (3 : Int) = a2 := by omega

theorem n9o3 (a2 : Int) (h0 : (-9223372036854775808 : Int) ≤ a2) (h1 : a2 ≤ (9223372036854775807 : Int)) (h2 : ¬ a2 < (2 : Int)) (h3 : ¬ (4 : Int) < a2) (h4 : ¬ (2 : Int) = a2) (h5 : ¬ (3 : Int) = a2) : (4 : Int) = a2 := by omega

theorem n9t0 (a1 a2 : Int) (l0 : (-9223372036854775808 : Int) ≤ a1) (u0 : a1 ≤ (9223372036854775807 : Int)) (l1 : (-9223372036854775808 : Int) ≤ a2) (u1 : a2 ≤ (9223372036854775807 : Int)) : n9R7.holds [a1, a2] := by
  refine Pt.h_fork (fun (f0 : a1 < (0 : Int)) => ?_) (fun (f0 : ¬ a1 < (0 : Int)) => ?_)
  · skip
    exact Pt.h_done
  · skip
    refine Pt.h_fork (fun (f1 : (3 : Int) < a1) => ?_) (fun (f1 : ¬ (3 : Int) < a1) => ?_)
    · skip
      exact Pt.h_done
    · skip
      refine Pt.h_fork (fun (f2 : a2 < (2 : Int)) => ?_) (fun (f2 : ¬ a2 < (2 : Int)) => ?_)
      · skip
        exact Pt.h_done
      · skip
        refine Pt.h_fork (fun (f3 : (4 : Int) < a2) => ?_) (fun (f3 : ¬ (4 : Int) < a2) => ?_)
        · skip
          exact Pt.h_done
        · skip
          refine Pt.h_fork (fun (f4 : (0 : Int) = a1) => ?_) (fun (f4 : ¬ (0 : Int) = a1) => ?_)
          · skip
            refine Pt.h_fork (fun (f5 : (3 : Int) = a2) => ?_) (fun (f5 : ¬ (3 : Int) = a2) => ?_)
            · skip
              exact Pt.h_done
            · skip
              refine Pt.h_fork (fun (f6 : (4 : Int) = a2) => ?_) (fun (f6 : ¬ (4 : Int) = a2) => ?_)
              · skip
                exact Pt.h_done
              · skip
                refine Pt.h_yes (show (2 : Int) = a2 from (n9o0 a2 l1 u1 f2 f3 f5 f6)) ?_
                exact Pt.h_done
          · skip
            refine Pt.h_fork (fun (f5 : (2 : Int) = a2) => ?_) (fun (f5 : ¬ (2 : Int) = a2) => ?_)
            · skip
              refine Pt.h_fork (fun (f6 : (1 : Int) = a1) => ?_) (fun (f6 : ¬ (1 : Int) = a1) => ?_)
              · skip
                exact Pt.h_done
              · skip
                refine Pt.h_fork (fun (f7 : (2 : Int) = a1) => ?_) (fun (f7 : ¬ (2 : Int) = a1) => ?_)
                · skip
                  exact Pt.h_done
                · skip
                  refine Pt.h_yes (show (3 : Int) = a1 from (n9o1 a1 l0 u0 f0 f1 f4 f6 f7)) ?_
                  exact Pt.h_done
            · skip
              refine Pt.h_fork (fun (f6 : (1 : Int) = a1) => ?_) (fun (f6 : ¬ (1 : Int) = a1) => ?_)
              · skip
                refine Pt.h_fork (fun (f7 : (4 : Int) = a2) => ?_) (fun (f7 : ¬ (4 : Int) = a2) => ?_)
                · skip
                  exact Pt.h_done
                · skip
                  refine Pt.h_yes (show (3 : Int) = a2 from (n9o2 a2 l1 u1 f2 f3 f5 f7)) ?_
                  exact Pt.h_done
              · skip
                refine Pt.h_fork (fun (f7 : (3 : Int) = a2) => ?_) (fun (f7 : ¬ (3 : Int) = a2) => ?_)
                · skip
                  refine Pt.h_fork (fun (f8 : (2 : Int) = a1) => ?_) (fun (f8 : ¬ (2 : Int) = a1) => ?_)
                  · skip
                    exact Pt.h_done
                  · skip
                    refine Pt.h_yes (show (3 : Int) = a1 from (n9o1 a1 l0 u0 f0 f1 f4 f6 f8)) ?_
                    exact Pt.h_done
                · skip
                  refine Pt.h_fork (fun (f8 : (2 : Int) = a1) => ?_) (fun (f8 : ¬ (2 : Int) = a1) => ?_)
                  · skip
                    refine Pt.h_yes (show (4 : Int) = a2 from (n9o3 a2 l1 u1 f2 f3 f5 f7)) ?_
                    exact Pt.h_done
                  · skip
                    refine Pt.h_yes (show (4 : Int) = a2 from (n9o3 a2 l1 u1 f2 f3 f5 f7)) ?_
                    refine Pt.h_yes (show (3 : Int) = a1 from (n9o1 a1 l0 u0 f0 f1 f4 f6 f8)) ?_
                    exact Pt.h_done

theorem n9rest : auto n9T9 [(-9223372036854775808, 9223372036854775807), (-9223372036854775808, 9223372036854775807)] = n9R7 := by kernel_rfl
theorem n9all (a1 a2 : Int) (l0 : (-9223372036854775808 : Int) ≤ a1) (u0 : a1 ≤ (9223372036854775807 : Int)) (l1 : (-9223372036854775808 : Int) ≤ a2) (u1 : a2 ≤ (9223372036854775807 : Int))  : n9T9.holds [a1, a2] :=
  holds_auto n9rest (fits_cons l0 u0 (fits_cons l1 u1 fits_nil)) (n9t0 a1 a2 l0 u0 l1 u1 )

def n10T0 : Pt := (.no (.eq (.c 1) (.v 0)) (.fork (.eq (.c 3) (.v 1)) (.no (.eq (.c 2) (.v 0)) (.no (.eq (.c 4) (.v 1)) (.no (.eq (.c 3) (.v 0)) (.no (.eq (.c 2) (.v 1)) (.is (.wr .u8 (.v 0)) (.c 0) .done))))) (.no (.eq (.c 2) (.v 0)) (.fork (.eq (.c 4) (.v 1)) (.no (.eq (.c 3) (.v 0)) (.no (.eq (.c 2) (.v 1)) (.is (.wr .u8 (.v 0)) (.c 0) .done))) (.no (.eq (.c 3) (.v 0)) (.yes (.eq (.c 2) (.v 1)) (.is (.wr .u8 (.v 0)) (.c 0) .done)))))))

def n10T1 : Pt := (.fork (.eq (.c 1) (.v 0)) (.no (.eq (.c 2) (.v 0)) (.no (.eq (.c 4) (.v 1)) (.no (.eq (.c 3) (.v 0)) (.no (.eq (.c 3) (.v 1)) (.is (.wr .u8 (.v 0)) (.c 1) .done))))) (.no (.eq (.c 3) (.v 1)) (.fork (.eq (.c 2) (.v 0)) (.no (.eq (.c 4) (.v 1)) (.no (.eq (.c 3) (.v 0)) (.is (.wr .u8 (.v 0)) (.c 2) .done))) (.no (.eq (.c 4) (.v 1)) (.yes (.eq (.c 3) (.v 0)) (.is (.wr .u8 (.v 0)) (.c 3) .done))))))

def n10T2 : Pt := (.fork (.eq (.c 3) (.v 1)) (.fork (.eq (.c 2) (.v 0)) (.no (.eq (.c 4) (.v 1)) (.no (.eq (.c 3) (.v 0)) (.is (.wr .u8 (.v 0)) (.c 2) .done))) (.no (.eq (.c 4) (.v 1)) (.yes (.eq (.c 3) (.v 0)) (.is (.wr .u8 (.v 0)) (.c 3) .done)))) (.fork (.eq (.c 2) (.v 0)) (.yes (.eq (.c 4) (.v 1)) (.no (.eq (.c 3) (.v 0)) (.is (.wr .u8 (.v 0)) (.c 2) .done))) (.yes (.eq (.c 4) (.v 1)) (.yes (.eq (.c 3) (.v 0)) (.is (.wr .u8 (.v 0)) (.c 3) .done)))))

def n10T3 : Pt := (.fork (.eq (.c 1) (.v 0)) (.no (.eq (.c 2) (.v 0)) (.fork (.eq (.c 4) (.v 1)) (.no (.eq (.c 3) (.v 0)) (.no (.eq (.c 3) (.v 1)) (.is (.wr .u8 (.v 0)) (.c 1) .done))) (.no (.eq (.c 3) (.v 0)) (.yes (.eq (.c 3) (.v 1)) (.is (.wr .u8 (.v 0)) (.c 1) .done))))) n10T2)

def n10T4 : Pt := (.fork (.eq (.c 2) (.v 1)) n10T1 n10T3)

def n10T5 : Pt := (.fork (.eq (.c 0) (.v 0)) n10T0 n10T4)

def n10T6 : Pt := (.fork (.lt (.c 4) (.v 1)) .done n10T5)

def n10T7 : Pt := (.fork (.lt (.v 1) (.c 2)) .done n10T6)

def n10T8 : Pt := (.fork (.lt (.c 3) (.v 0)) .done n10T7)

def n10T9 : Pt := (.fork (.lt (.v 0) (.c 0)) .done n10T8)

def n10R0 : Pt := (.fork (.eq (.c 3) (.v 1)) (.fork (.eq (.c 2) (.v 0)) .done (.yes (.eq (.c 3) (.v 0)) .done)) (.fork (.eq (.c 2) (.v 0)) (.yes (.eq (.c 4) (.v 1)) .done) (.yes (.eq (.c 4) (.v 1)) (.yes (.eq (.c 3) (.v 0)) .done))))

def n10R1 : Pt := (.fork (.eq (.c 1) (.v 0)) (.fork (.eq (.c 4) (.v 1)) .done (.yes (.eq (.c 3) (.v 1)) .done)) n10R0)

def n10R2 : Pt := (.fork (.eq (.c 2) (.v 1)) (.fork (.eq (.c 1) (.v 0)) .done (.fork (.eq (.c 2) (.v 0)) .done (.yes (.eq (.c 3) (.v 0)) .done))) n10R1)

def n10R3 : Pt := (.fork (.eq (.c 0) (.v 0)) (.fork (.eq (.c 3) (.v 1)) .done (.fork (.eq (.c 4) (.v 1)) .done (.yes (.eq (.c 2) (.v 1)) .done))) n10R2)

def n10R4 : Pt := (.fork (.lt (.c 4) (.v 1)) .done n10R3)

def n10R5 : Pt := (.fork (.lt (.v 1) (.c 2)) .done n10R4)

def n10R6 : Pt := (.fork (.lt (.c 3) (.v 0)) .done n10R5)

def n10R7 : Pt := (.fork (.lt (.v 0) (.c 0)) .done n10R6)

theorem n10o0 (a2 : Int) (h0 : (-9223372036854775808 : Int) ≤ a2) (h1 : a2 ≤ (9223372036854775807 : Int)) (h2 : ¬ a2 < (2 : Int)) (h3 : ¬ (4 : Int) < a2) (h4 : ¬ (3 : Int) = a2) (h5 : ¬ (4 : Int) = a2) : (2 : Int) = a2 := by omega

theorem n10o1 (a1 : Int) (h0 : (-9223372036854775808 : Int) ≤ a1) (h1 : a1 ≤ (9223372036854775807 : Int)) (h2 : ¬ a1 < (0 : Int)) (h3 : ¬ (3 : Int) < a1) (h4 : ¬ (0 : Int) = a1) (h5 : ¬ (1 : Int) = a1) (h6 : ¬ (2 : Int) = a1) : (3 : Int) = a1 := by omega

theorem n10o2 (a2 : Int) (h0 : (-9223372036854775808 : Int) ≤ a2) (h1 : a2 ≤ (9223372036854775807 : Int)) (h2 : ¬ a2 < (2 : Int)) (h3 : ¬ (4 : Int) < a2) (h4 : ¬ (2 : Int) = a2) (h5 : ¬ (4 : Int) = a2) : (3 : Int) = a2 := by omega

theorem n10o3 (a2 : Int) (h0 : (-9223372036854775808 : Int) ≤ a2) (h1 : a2 ≤ (9223372036854775807 : Int)) (h2 : ¬ a2 < (2 : Int)) (h3 : ¬ (4 : Int) < a2) (h4 : ¬ (2 : Int) = a2) (h5 : ¬ (3 : Int) = a2) : (4 : Int) = a2 := by omega

theorem n10t0 (a1 a2 : Int) (l0 : (-9223372036854775808 : Int) ≤ a1) (u0 : a1 ≤ (9223372036854775807 : Int)) (l1 : (-9223372036854775808 : Int) ≤ a2) (u1 : a2 ≤ (9223372036854775807 : Int)) : n10R7.holds [a1, a2] := by
  refine Pt.h_fork (fun (f0 : a1 < (0 : Int)) => ?_) (fun (f0 : ¬ a1 < (0 : Int)) => ?_)
  · skip
    exact Pt.h_done
  · skip
    refine Pt.h_fork (fun (f1 : (3 : Int) < a1) => ?_) (fun (f1 : ¬ (3 : Int) < a1) => ?_)
    · skip
      exact Pt.h_done
    · skip
      refine Pt.h_fork (fun (f2 : a2 < (2 : Int)) => ?_) (fun (f2 : ¬ a2 < (2 : Int)) => ?_)
      · skip
        exact Pt.h_done
      · skip
        refine Pt.h_fork (fun (f3 : (4 : Int) < a2) => ?_) (fun (f3 : ¬ (4 : Int) < a2) => ?_)
        · skip
          exact Pt.h_done
        · skip
          refine Pt.h_fork (fun (f4 : (0 : Int) = a1) => ?_) (fun (f4 : ¬ (0 : Int) = a1) => ?_)
          · skip
            refine Pt.h_fork (fun (f5 : (3 : Int) = a2) => ?_) (fun (f5 : ¬ (3 : Int) = a2) => ?_)
            · skip
              exact Pt.h_done
            · skip
              refine Pt.h_fork (fun (f6 : (4 : Int) = a2) => ?_) (fun (f6 : ¬ (4 : Int) = a2) => ?_)
              · skip
                exact Pt.h_done
              · skip
                refine Pt.h_yes (show (2 : Int) = a2 from (n10o0 a2 l1 u1 f2 f3 f5 f6)) ?_
                exact Pt.h_done
          · skip
            refine Pt.h_fork (fun (f5 : (2 : Int) = a2) => ?_) (fun (f5 : ¬ (2 : Int) = a2) => ?_)
            · skip
              refine Pt.h_fork (fun (f6 : (1 : Int) = a1) => ?_) (fun (f6 : ¬ (1 : Int) = a1) => ?_)
              · skip
                exact Pt.h_done
              · skip
                refine Pt.h_fork (fun (f7 : (2 : Int) = a1) => ?_) (fun (f7 : ¬ (2 : Int) = a1) => ?_)
                · skip
                  exact Pt.h_done
                · skip
                  refine Pt.h_yes (show (3 : Int) = a1 from (n10o1 a1 l0 u0 f0 f1 f4 f6 f7)) ?_
                  exact Pt.h_done
            · skip
              refine Pt.h_fork (fun (f6 : (1 : Int) = a1) => ?_) (fun (f6 : ¬ (1 : Int) = a1) => ?_)
              · skip
                refine Pt.h_fork (fun (f7 : (4 : Int) = a2) => ?_) (fun (f7 : ¬ (4 : Int) = a2) => ?_)
                · skip
                  exact Pt.h_done
                · skip
                  refine Pt.h_yes (show (3 : Int) = a2 from (n10o2 a2 l1 u1 f2 f3 f5 f7)) ?_
                  exact Pt.h_done
              · skip
                refine Pt.h_fork (fun (f7 : (3 : Int) = a2) => ?_) (fun (f7 : ¬ (3 : Int) = a2) => ?_)
                · skip
                  refine Pt.h_fork (fun (f8 : (2 : Int) = a1) => ?_) (fun (f8 : ¬ (2 : Int) = a1) => ?_)
                  · skip
                    exact Pt.h_done
                  · skip
                    refine Pt.h_yes (show (3 : Int) = a1 from (n10o1 a1 l0 u0 f0 f1 f4 f6 f8)) ?_
                    exact Pt.h_done
                · skip
                  refine Pt.h_fork (fun (f8 : (2 : Int) = a1) => ?_) (fun (f8 : ¬ (2 : Int) = a1) => ?_)
                  · skip
                    refine Pt.h_yes (show (4 : Int) = a2 from (n10o3 a2 l1 u1 f2 f3 f5 f7)) ?_
                    exact Pt.h_done
                  · skip
                    refine Pt.h_yes (show (4 : Int) = a2 from (n10o3 a2 l1 u1 f2 f3 f5 f7)) ?_
                    refine Pt.h_yes (show (3 : Int) = a1 from (n10o1 a1 l0 u0 f0 f1 f4 f6 f8)) ?_
                    exact Pt.h_done

theorem n10rest : auto n10T9 [(-9223372036854775808, 9223372036854775807), (-9223372036854775808, 9223372036854775807)] = n10R7 := by kernel_rfl
theorem n10all (a1 a2 : Int) (l0 : (-9223372036854775808 : Int) ≤ a1) (u0 : a1 ≤ (9223372036854775807 : Int)) (l1 : (-9223372036854775808 : Int) ≤ a2) (u1 : a2 ≤ (9223372036854775807 : Int))  : n10T9.holds [a1, a2] :=
  holds_auto n10rest (fits_cons l0 u0 (fits_cons l1 u1 fits_nil)) (n10t0 a1 a2 l0 u0 l1 u1 )

def n11T0 : Pt := (.no (.eq (.c 1) (.v 0)) (.fork (.eq (.c 3) (.v 1)) (.no (.eq (.c 2) (.v 0)) (.no (.eq (.c 4) (.v 1)) (.no (.eq (.c 3) (.v 0)) (.no (.eq (.c 2) (.v 1)) (.is (.wr .u8 (.v 0)) (.c 0) .done))))) (.no (.eq (.c 2) (.v 0)) (.fork (.eq (.c 4) (.v 1)) (.no (.eq (.c 3) (.v 0)) (.no (.eq (.c 2) (.v 1)) (.is (.wr .u8 (.v 0)) (.c 0) .done))) (.no (.eq (.c 3) (.v 0)) (.yes (.eq (.c 2) (.v 1)) (.is (.wr .u8 (.v 0)) (.c 0) .done)))))))

def n11T1 : Pt := (.fork (.eq (.c 1) (.v 0)) (.no (.eq (.c 2) (.v 0)) (.no (.eq (.c 4) (.v 1)) (.no (.eq (.c 3) (.v 0)) (.no (.eq (.c 3) (.v 1)) (.is (.wr .u8 (.v 0)) (.c 1) .done))))) (.no (.eq (.c 3) (.v 1)) (.fork (.eq (.c 2) (.v 0)) (.no (.eq (.c 4) (.v 1)) (.no (.eq (.c 3) (.v 0)) (.is (.wr .u8 (.v 0)) (.c 2) .done))) (.no (.eq (.c 4) (.v 1)) (.yes (.eq (.c 3) (.v 0)) (.is (.wr .u8 (.v 0)) (.c 3) .done))))))

def n11T2 : Pt := (.fork (.eq (.c 3) (.v 1)) (.fork (.eq (.c 2) (.v 0)) (.no (.eq (.c 4) (.v 1)) (.no (.eq (.c 3) (.v 0)) (.is (.wr .u8 (.v 0)) (.c 2) .done))) (.no (.eq (.c 4) (.v 1)) (.yes (.eq (.c 3) (.v 0)) (.is (.wr .u8 (.v 0)) (.c 3) .done)))) (.fork (.eq (.c 2) (.v 0)) (.yes (.eq (.c 4) (.v 1)) (.no (.eq (.c 3) (.v 0)) (.is (.wr .u8 (.v 0)) (.c 2) .done))) (.yes (.eq (.c 4) (.v 1)) (.yes (.eq (.c 3) (.v 0)) (.is (.wr .u8 (.v 0)) (.c 3) .done)))))

def n11T3 : Pt := (.fork (.eq (.c 1) (.v 0)) (.no (.eq (.c 2) (.v 0)) (.fork (.eq (.c 4) (.v 1)) (.no (.eq (.c 3) (.v 0)) (.no (.eq (.c 3) (.v 1)) (.is (.wr .u8 (.v 0)) (.c 1) .done))) (.no (.eq (.c 3) (.v 0)) (.yes (.eq (.c 3) (.v 1)) (.is (.wr .u8 (.v 0)) (.c 1) .done))))) n11T2)

def n11T4 : Pt := (.fork (.eq (.c 2) (.v 1)) n11T1 n11T3)

def n11T5 : Pt := (.fork (.eq (.c 0) (.v 0)) n11T0 n11T4)

def n11T6 : Pt := (.fork (.lt (.c 4) (.v 1)) .done n11T5)

def n11T7 : Pt := (.fork (.lt (.v 1) (.c 2)) .done n11T6)

def n11T8 : Pt := (.fork (.lt (.c 3) (.v 0)) .done n11T7)

def n11T9 : Pt := (.fork (.lt (.v 0) (.c 0)) .done n11T8)

def n11R0 : Pt := (.fork (.eq (.c 3) (.v 1)) (.fork (.eq (.c 2) (.v 0)) .done (.yes (.eq (.c 3) (.v 0)) .done)) (.fork (.eq (.c 2) (.v 0)) (.yes (.eq (.c 4) (.v 1)) .done) (.yes (.eq (.c 4) (.v 1)) (.yes (.eq (.c 3) (.v 0)) .done))))

def n11R1 : Pt := (.fork (.eq (.c 1) (.v 0)) (.fork (.eq (.c 4) (.v 1)) .done (.yes (.eq (.c 3) (.v 1)) .done)) n11R0)

def n11R2 : Pt := (.fork (.eq (.c 2) (.v 1)) (.fork (.eq (.c 1) (.v 0)) .done (.fork (.eq (.c 2) (.v 0)) .done (.yes (.eq (.c 3) (.v 0)) .done))) n11R1)

def n11R3 : Pt := (.fork (.eq (.c 0) (.v 0)) (.fork (.eq (.c 3) (.v 1)) .done (.fork (.eq (.c 4) (.v 1)) .done (.yes (.eq (.c 2) (.v 1)) .done))) n11R2)

def n11R4 : Pt := (.fork (.lt (.c 4) (.v 1)) .done n11R3)

def n11R5 : Pt := (.fork (.lt (.v 1) (.c 2)) .done n11R4)

def n11R6 : Pt := (.fork (.lt (.c 3) (.v 0)) .done n11R5)

def n11R7 : Pt := (.fork (.lt (.v 0) (.c 0)) .done n11R6)

theorem n11o0 (a2 : Int) (h0 : (-9223372036854775808 : Int) ≤ a2) (h1 : a2 ≤ (9223372036854775807 : Int)) (h2 : ¬ a2 < (2 : Int)) (h3 : ¬ (4 : Int) < a2) (h4 : ¬ (3 : Int) = a2) (h5 : ¬ (4 : Int) = a2) : (2 : Int) = a2 := by omega

theorem n11o1 (a1 : Int) (h0 : (-9223372036854775808 : Int) ≤ a1) (h1 : a1 ≤ (9223372036854775807 : Int)) (h2 : ¬ a1 < (0 : Int)) (h3 : ¬ (3 : Int) < a1) (h4 : ¬ (0 : Int) = a1) (h5 : ¬ (1 : Int) = a1) (h6 : ¬ (2 : Int) = a1) : (3 : Int) = a1 := by omega

theorem n11o2 (a2 : Int) (h0 : (-9223372036854775808 : Int) ≤ a2) (h1 : a2 ≤ (9223372036854775807 : Int)) (h2 : ¬ a2 < (2 : Int)) (h3 : ¬ (4 : Int) < a2) (h4 : ¬ (2 : Int) = a2) (h5 : ¬ (4 : Int) = a2) : (3 : Int) = a2 := by omega

theorem n11o3 (a2 : Int) (h0 : (-9223372036854775808 : Int) ≤ a2) (h1 : a2 ≤ (9223372036854775807 : Int)) (h2 : ¬ a2 < (2 : Int)) (h3 : ¬ (4 : Int) < a2) (h4 : ¬ (2 : Int) = a2) (h5 : ¬ (3 : Int) = a2) : (4 : Int) = a2 := by omega

theorem n11t0 (a1 a2 : Int) (l0 : (-9223372036854775808 : Int) ≤ a1) (u0 : a1 ≤ (9223372036854775807 : Int)) (l1 : (-9223372036854775808 : Int) ≤ a2) (u1 : a2 ≤ (9223372036854775807 : Int)) : n11R7.holds [a1, a2] := by
  refine Pt.h_fork (fun (f0 : a1 < (0 : Int)) => ?_) (fun (f0 : ¬ a1 < (0 : Int)) => ?_)
  · skip
    exact Pt.h_done
  · skip
    refine Pt.h_fork (fun (f1 : (3 : Int) < a1) => ?_) (fun (f1 : ¬ (3 : Int) < a1) => ?_)
    · skip
      exact Pt.h_done
    · skip
      refine Pt.h_fork (fun (f2 : a2 < (2 : Int)) => ?_) (fun (f2 : ¬ a2 < (2 : Int)) => ?_)
      · skip
        exact Pt.h_done
      · skip
        refine Pt.h_fork (fun (f3 : (4 : Int) < a2) => ?_) (fun (f3 : ¬ (4 : Int) < a2) => ?_)
        · skip
          exact Pt.h_done
        · skip
          refine Pt.h_fork (fun (f4 : (0 : Int) = a1) => ?_) (fun (f4 : ¬ (0 : Int) = a1) => ?_)
          · skip
            refine Pt.h_fork (fun (f5 : (3 : Int) = a2) => ?_) (fun (f5 : ¬ (3 : Int) = a2) => ?_)
            · skip
              exact Pt.h_done
            · skip
              refine Pt.h_fork (fun (f6 : (4 : Int) = a2) => ?_) (fun (f6 : ¬ (4 : Int) = a2) => ?_)
              · skip
                exact Pt.h_done
              · skip
                refine Pt.h_yes (show (2 : Int) = a2 from (n11o0 a2 l1 u1 f2 f3 f5 f6)) ?_
                exact Pt.h_done
          · skip
            refine Pt.h_fork (fun (f5 : (2 : Int) = a2) => ?_) (fun (f5 : ¬ (2 : Int) = a2) => ?_)
            · skip
              refine Pt.h_fork (fun (f6 : (1 : Int) = a1) => ?_) (fun (f6 : ¬ (1 : Int) = a1) => ?_)
              · skip
                exact Pt.h_done
              · skip
                refine Pt.h_fork (fun (f7 : (2 : Int) = a1) => ?_) (fun (f7 : ¬ (2 : Int) = a1) => ?_)
                · skip
                  exact Pt.h_done
                · skip
                  refine Pt.h_yes (show (3 : Int) = a1 from (n11o1 a1 l0 u0 f0 f1 f4 f6 f7)) ?_
                  exact Pt.h_done
            · skip
              refine Pt.h_fork (fun (f6 : (1 : Int) = a1) => ?_) (fun (f6 : ¬ (1 : Int) = a1) => ?_)
              · skip
                refine Pt.h_fork (fun (f7 : (4 : Int) = a2) => ?_) (fun (f7 : ¬ (4 : Int) = a2) => ?_)
                · skip
                  exact Pt.h_done
                · skip
                  refine Pt.h_yes (show (3 : Int) = a2 from (n11o2 a2 l1 u1 f2 f3 f5 f7)) ?_
                  exact Pt.h_done
              · skip
                refine Pt.h_fork (fun (f7 : (3 : Int) = a2) => ?_) (fun (f7 : ¬ (3 : Int) = a2) => ?_)
                · skip
                  refine Pt.h_fork (fun (f8 : (2 : Int) = a1) => ?_) (fun (f8 : ¬ (2 : Int) = a1) => ?_)
                  · skip
                    exact Pt.h_done
                  · skip
                    refine Pt.h_yes (show (3 : Int) = a1 from (n11o1 a1 l0 u0 f0 f1 f4 f6 f8)) ?_
                    exact Pt.h_done
                · skip
                  refine Pt.h_fork (fun (f8 : (2 : Int) = a1) => ?_) (fun (f8 : ¬ (2 : Int) = a1) => ?_)
                  · skip
                    refine Pt.h_yes (show (4 : Int) = a2 from (n11o3 a2 l1 u1 f2 f3 f5 f7)) ?_
                    exact Pt.h_done
                  · skip
                    refine Pt.h_yes (show (4 : Int) = a2 from (n11o3 a2 l1 u1 f2 f3 f5 f7)) ?_
                    refine Pt.h_yes (show (3 : Int) = a1 from (n11o1 a1 l0 u0 f0 f1 f4 f6 f8)) ?_
                    exact Pt.h_done

theorem n11rest : auto n11T9 [(-9223372036854775808, 9223372036854775807), (-9223372036854775808, 9223372036854775807)] = n11R7 := by kernel_rfl
theorem n11all (a1 a2 : Int) (l0 : (-9223372036854775808 : Int) ≤ a1) (u0 : a1 ≤ (9223372036854775807 : Int)) (l1 : (-9223372036854775808 : Int) ≤ a2) (u1 : a2 ≤ (9223372036854775807 : Int))  : n11T9.holds [a1, a2] :=
  holds_auto n11rest (fits_cons l0 u0 (fits_cons l1 u1 fits_nil)) (n11t0 a1 a2 l0 u0 l1 u1 )

def n12T0 : Pt := (.no (.eq (.c 1) (.v 0)) (.fork (.eq (.c 3) (.v 1)) (.no (.eq (.c 2) (.v 0)) (.no (.eq (.c 4) (.v 1)) (.no (.eq (.c 3) (.v 0)) (.no (.eq (.c 2) (.v 1)) (.is (.wr .u8 (.v 0)) (.c 0) .done))))) (.no (.eq (.c 2) (.v 0)) (.fork (.eq (.c 4) (.v 1)) (.no (.eq (.c 3) (.v 0)) (.no (.eq (.c 2) (.v 1)) (.is (.wr .u8 (.v 0)) (.c 0) .done))) (.no (.eq (.c 3) (.v 0)) (.yes (.eq (.c 2) (.v 1)) (.is (.wr .u8 (.v 0)) (.c 0) .done)))))))

def n12T1 : Pt := (.fork (.eq (.c 1) (.v 0)) (.no (.eq (.c 2) (.v 0)) (.no (.eq (.c 4) (.v 1)) (.no (.eq (.c 3) (.v 0)) (.no (.eq (.c 3) (.v 1)) (.is (.wr .u8 (.v 0)) (.c 1) .done))))) (.no (.eq (.c 3) (.v 1)) (.fork (.eq (.c 2) (.v 0)) (.no (.eq (.c 4) (.v 1)) (.no (.eq (.c 3) (.v 0)) (.is (.wr .u8 (.v 0)) (.c 2) .done))) (.no (.eq (.c 4) (.v 1)) (.yes (.eq (.c 3) (.v 0)) (.is (.wr .u8 (.v 0)) (.c 3) .done))))))

def n12T2 : Pt := (.fork (.eq (.c 3) (.v 1)) (.fork (.eq (.c 2) (.v 0)) (.no (.eq (.c 4) (.v 1)) (.no (.eq (.c 3) (.v 0)) (.is (.wr .u8 (.v 0)) (.c 2) .done))) (.no (.eq (.c 4) (.v 1)) (.yes (.eq (.c 3) (.v 0)) (.is (.wr .u8 (.v 0)) (.c 3) .done)))) (.fork (.eq (.c 2) (.v 0)) (.yes (.eq (.c 4) (.v 1)) (.no (.eq (.c 3) (.v 0)) (.is (.wr .u8 (.v 0)) (.c 2) .done))) (.yes (.eq (.c 4) (.v 1)) (.yes (.eq (.c 3) (.v 0)) (.is (.wr .u8 (.v 0)) (.c 3) .done)))))

def n12T3 : Pt := (.fork (.eq (.c 1) (.v 0)) (.no (.eq (.c 2) (.v 0)) (.fork (.eq (.c 4) (.v 1)) (.no (.eq (.c 3) (.v 0)) (.no (.eq (.c 3) (.v 1)) (.is (.wr .u8 (.v 0)) (.c 1) .done))) (.no (.eq (.c 3) (.v 0)) (.yes (.eq (.c 3) (.v 1)) (.is (.wr .u8 (.v 0)) (.c 1) .done))))) n12T2)

def n12T4 : Pt := (.fork (.eq (.c 2) (.v 1)) n12T1 n12T3)

def n12T5 : Pt := (.fork (.eq (.c 0) (.v 0)) n12T0 n12T4)

def n12T6 : Pt := (.fork (.lt (.c 4) (.v 1)) .done n12T5)

def n12T7 : Pt := (.fork (.lt (.v 1) (.c 2)) .done n12T6)

def n12T8 : Pt := (.fork (.lt (.c 3) (.v 0)) .done n12T7)

def n12T9 : Pt := (.fork (.lt (.v 0) (.c 0)) .done n12T8)

def n12R0 : Pt := (.fork (.eq (.c 3) (.v 1)) (.fork (.eq (.c 2) (.v 0)) .done (.yes (.eq (.c 3) (.v 0)) .done)) (.fork (.eq (.c 2) (.v 0)) (.yes (.eq (.c 4) (.v 1)) .done) (.yes (.eq (.c 4) (.v 1)) (.yes (.eq (.c 3) (.v 0)) .done))))

def n12R1 : Pt := (.fork (.eq (.c 1) (.v 0)) (.fork (.eq (.c 4) (.v 1)) .done (.yes (.eq (.c 3) (.v 1)) .done)) n12R0)

def n12R2 : Pt := (.fork (.eq (.c 2) (.v 1)) (.fork (.eq (.c 1) (.v 0)) .done (.fork (.eq (.c 2) (.v 0)) .done (.yes (.eq (.c 3) (.v 0)) .done))) n12R1)

def n12R3 : Pt := (.fork (.eq (.c 0) (.v 0)) (.fork (.eq (.c 3) (.v 1)) .done (.fork (.eq (.c 4) (.v 1)) .done (.yes (.eq (.c 2) (.v 1)) .done))) n12R2)

def n12R4 : Pt := (.fork (.lt (.c 4) (.v 1)) .done n12R3)

def n12R5 : Pt := (.fork (.lt (.v 1) (.c 2)) .done n12R4)

def n12R6 : Pt := (.fork (.lt (.c 3) (.v 0)) .done n12R5)

def n12R7 : Pt := (.fork (.lt (.v 0) (.c 0)) .done n12R6)

theorem n12o0 (a2 : Int) (h0 : (-9223372036854775808 : Int) ≤ a2) (h1 : a2 ≤ (9223372036854775807 : Int)) (h2 : ¬ a2 < (2 : Int)) (h3 : ¬ (4 : Int) < a2) (h4 : ¬ (3 : Int) = a2) (h5 : ¬ (4 : Int) = a2) : (2 : Int) = a2 := by omega

theorem n12o1 (a1 : Int) (h0 : (-9223372036854775808 : Int) ≤ a1) (h1 : a1 ≤ (9223372036854775807 : Int)) (h2 : ¬ a1 < (0 : Int)) (h3 : ¬ (3 : Int) < a1) (h4 : ¬ (0 : Int) = a1) (h5 : ¬ (1 : Int) = a1) (h6 : ¬ (2 : Int) = a1) : (3 : Int) = a1 := by omega

theorem n12o2 (a2 : Int) (h0 : (-9223372036854775808 : Int) ≤ a2) (h1 : a2 ≤ (9223372036854775807 : Int)) (h2 : ¬ a2 < (2 : Int)) (h3 : ¬ (4 : Int) < a2) (h4 : ¬ (2 : Int) = a2) (h5 : ¬ (4 : Int) = a2) : (3 : Int) = a2 := by omega

theorem n12o3 (a2 : Int) (h0 : (-9223372036854775808 : Int) ≤ a2) (h1 : a2 ≤ (9223372036854775807 : Int)) (h2 : ¬ a2 < (2 : Int)) (h3 : ¬ (4 : Int) < a2) (h4 : ¬ (2 : Int) = a2) (h5 : ¬ (3 : Int) = a2) : (4 : Int) = a2 := by omega

theorem n12t0 (a1 a2 : Int) (l0 : (-9223372036854775808 : Int) ≤ a1) (u0 : a1 ≤ (9223372036854775807 : Int)) (l1 : (-9223372036854775808 : Int) ≤ a2) (u1 : a2 ≤ (9223372036854775807 : Int)) : n12R7.holds [a1, a2] := by
  refine Pt.h_fork (fun (f0 : a1 < (0 : Int)) => ?_) (fun (f0 : ¬ a1 < (0 : Int)) => ?_)
  · skip
    exact Pt.h_done
  · skip
    refine Pt.h_fork (fun (f1 : (3 : Int) < a1) => ?_) (fun (f1 : ¬ (3 : Int) < a1) => ?_)
    · skip
      exact Pt.h_done
    · skip
      refine Pt.h_fork (fun (f2 : a2 < (2 : Int)) => ?_) (fun (f2 : ¬ a2 < (2 : Int)) => ?_)
      · skip
        exact Pt.h_done
      · skip
        refine Pt.h_fork (fun (f3 : (4 : Int) < a2) => ?_) (fun (f3 : ¬ (4 : Int) < a2) => ?_)
        · skip
          exact Pt.h_done
        · skip
          refine Pt.h_fork (fun (f4 : (0 : Int) = a1) => ?_) (fun (f4 : ¬ (0 : Int) = a1) => ?_)
          · skip
            refine Pt.h_fork (fun (f5 : (3 : Int) = a2) => ?_) (fun (f5 : ¬ (3 : Int) = a2) => ?_)
            · skip
              exact Pt.h_done
            · skip
              refine Pt.h_fork (fun (f6 : (4 : Int) = a2) => ?_) (fun (f6 : ¬ (4 : Int) = a2) => ?_)
              · skip
                exact Pt.h_done
              · skip
                refine Pt.h_yes (show (2 : Int) = a2 from (n12o0 a2 l1 u1 f2 f3 f5 f6)) ?_
                exact Pt.h_done
          · skip
            refine Pt.h_fork (fun (f5 : (2 : Int) = a2) => ?_) (fun (f5 : ¬ (2 : Int) = a2) => ?_)
            · skip
              refine Pt.h_fork (fun (f6 : (1 : Int) = a1) => ?_) (fun (f6 : ¬ (1 : Int) = a1) => ?_)
              · skip
                exact Pt.h_done
              · skip
                refine Pt.h_fork (fun (f7 : (2 : Int) = a1) => ?_) (fun (f7 : ¬ (2 : Int) = a1) => ?_)
                · skip
                  exact Pt.h_done
                · skip
                  refine Pt.h_yes (show (3 : Int) = a1 from (n12o1 a1 l0 u0 f0 f1 f4 f6 f7)) ?_
                  exact Pt.h_done
            · skip
              refine Pt.h_fork (fun (f6 : (1 : Int) = a1) => ?_) (fun (f6 : ¬ (1 : Int) = a1) => ?_)
              · skip
                refine Pt.h_fork (fun (f7 : (4 : Int) = a2) => ?_) (fun (f7 : ¬ (4 : Int) = a2) => ?_)
                · skip
                  exact Pt.h_done
                · skip
                  refine Pt.h_yes (show (3 : Int) = a2 from (n12o2 a2 l1 u1 f2 f3 f5 f7)) ?_
                  exact Pt.h_done
              · skip
                refine Pt.h_fork (fun (f7 : (3 : Int) = a2) => ?_) (fun (f7 : ¬ (3 : Int) = a2) => ?_)
                · skip
                  refine Pt.h_fork (fun (f8 : (2 : Int) = a1) => ?_) (fun (f8 : ¬ (2 : Int) = a1) => ?_)
                  · skip
                    exact Pt.h_done
                  · skip
                    refine Pt.h_yes (show (3 : Int) = a1 from (n12o1 a1 l0 u0 f0 f1 f4 f6 f8)) ?_
                    exact Pt.h_done
                · skip
                  refine Pt.h_fork (fun (f8 : (2 : Int) = a1) => ?_) (fun (f8 : ¬ (2 : Int) = a1) => ?_)
                  · skip
                    refine Pt.h_yes (show (4 : Int) = a2 from (n12o3 a2 l1 u1 f2 f3 f5 f7)) ?_
                    exact Pt.h_done
                  · skip
                    refine Pt.h_yes (show (4 : Int) = a2 from (n12o3 a2 l1 u1 f2 f3 f5 f7)) ?_
                    refine Pt.h_yes (show (3 : Int) = a1 from (n12o1 a1 l0 u0 f0 f1 f4 f6 f8)) ?_
                    exact Pt.h_done

theorem n12rest : auto n12T9 [(-9223372036854775808, 9223372036854775807), (-9223372036854775808, 9223372036854775807)] = n12R7 := by kernel_rfl
theorem n12all (a1 a2 : Int) (l0 : (-9223372036854775808 : Int) ≤ a1) (u0 : a1 ≤ (9223372036854775807 : Int)) (l1 : (-9223372036854775808 : Int) ≤ a2) (u1 : a2 ≤ (9223372036854775807 : Int))  : n12T9.holds [a1, a2] :=
  holds_auto n12rest (fits_cons l0 u0 (fits_cons l1 u1 fits_nil)) (n12t0 a1 a2 l0 u0 l1 u1 )

def n13T0 : Pt := (.no (.eq (.c 1) (.v 0)) (.fork (.eq (.c 3) (.v 1)) (.no (.eq (.c 2) (.v 0)) (.no (.eq (.c 4) (.v 1)) (.no (.eq (.c 3) (.v 0)) (.no (.eq (.c 2) (.v 1)) (.is (.wr .u8 (.v 0)) (.c 0) .done))))) (.no (.eq (.c 2) (.v 0)) (.fork (.eq (.c 4) (.v 1)) (.no (.eq (.c 3) (.v 0)) (.no (.eq (.c 2) (.v 1)) (.is (.wr .u8 (.v 0)) (.c 0) .done))) (.no (.eq (.c 3) (.v 0)) (.yes (.eq (.c 2) (.v 1)) (.is (.wr .u8 (.v 0)) (.c 0) .done)))))))

def n13T1 : Pt := (.fork (.eq (.c 1) (.v 0)) (.no (.eq (.c 2) (.v 0)) (.no (.eq (.c 4) (.v 1)) (.no (.eq (.c 3) (.v 0)) (.no (.eq (.c 3) (.v 1)) (.is (.wr .u8 (.v 0)) (.c 1) .done))))) (.no (.eq (.c 3) (.v 1)) (.fork (.eq (.c 2) (.v 0)) (.no (.eq (.c 4) (.v 1)) (.no (.eq (.c 3) (.v 0)) (.is (.wr .u8 (.v 0)) (.c 2) .done))) (.no (.eq (.c 4) (.v 1)) (.yes (.eq (.c 3) (.v 0)) (.is (.wr .u8 (.v 0)) (.c 3) .done))))))

def n13T2 : Pt := (.fork (.eq (.c 3) (.v 1)) (.fork (.eq (.c 2) (.v 0)) (.no (.eq (.c 4) (.v 1)) (.no (.eq (.c 3) (.v 0)) (.is (.wr .u8 (.v 0)) (.c 2) .done))) (.no (.eq (.c 4) (.v 1)) (.yes (.eq (.c 3) (.v 0)) (.is (.wr .u8 (.v 0)) (.c 3) .done)))) (.fork (.eq (.c 2) (.v 0)) (.yes (.eq (.c 4) (.v 1)) (.no (.eq (.c 3) (.v 0)) (.is (.wr .u8 (.v 0)) (.c 2) .done))) (.yes (.eq (.c 4) (.v 1)) (.yes (.eq (.c 3) (.v 0)) (.is (.wr .u8 (.v 0)) (.c 3) .done)))))

def n13T3 : Pt := (.fork (.eq (.c 1) (.v 0)) (.no (.eq (.c 2) (.v 0)) (.fork (.eq (.c 4) (.v 1)) (.no (.eq (.c 3) (.v 0)) (.no (.eq (.c 3) (.v 1)) (.is (.wr .u8 (.v 0)) (.c 1) .done))) (.no (.eq (.c 3) (.v 0)) (.yes (.eq (.c 3) (.v 1)) (.is (.wr .u8 (.v 0)) (.c 1) .done))))) n13T2)

def n13T4 : Pt := (.fork (.eq (.c 2) (.v 1)) n13T1 n13T3)

def n13T5 : Pt := (.fork (.eq (.c 0) (.v 0)) n13T0 n13T4)

def n13T6 : Pt := (.fork (.lt (.c 4) (.v 1)) .done n13T5)

def n13T7 : Pt := (.fork (.lt (.v 1) (.c 2)) .done n13T6)

def n13T8 : Pt := (.fork (.lt (.c 3) (.v 0)) .done n13T7)

def n13T9 : Pt := (.fork (.lt (.v 0) (.c 0)) .done n13T8)

def n13R0 : Pt := (.fork (.eq (.c 3) (.v 1)) (.fork (.eq (.c 2) (.v 0)) .done (.yes (.eq (.c 3) (.v 0)) .done)) (.fork (.eq (.c 2) (.v 0)) (.yes (.eq (.c 4) (.v 1)) .done) (.yes (.eq (.c 4) (.v 1)) (.yes (.eq (.c 3) (.v 0)) .done))))

def n13R1 : Pt := (.fork (.eq (.c 1) (.v 0)) (.fork (.eq (.c 4) (.v 1)) .done (.yes (.eq (.c 3) (.v 1)) .done)) n13R0)

def n13R2 : Pt := (.fork (.eq (.c 2) (.v 1)) (.fork (.eq (.c 1) (.v 0)) .done (.fork (.eq (.c 2) (.v 0)) .done (.yes (.eq (.c 3) (.v 0)) .done))) n13R1)

def n13R3 : Pt := (.fork (.eq (.c 0) (.v 0)) (.fork (.eq (.c 3) (.v 1)) .done (.fork (.eq (.c 4) (.v 1)) .done (.yes (.eq (.c 2) (.v 1)) .done))) n13R2)

def n13R4 : Pt := (.fork (.lt (.c 4) (.v 1)) .done n13R3)

def n13R5 : Pt := (.fork (.lt (.v 1) (.c 2)) .done n13R4)

def n13R6 : Pt := (.fork (.lt (.c 3) (.v 0)) .done n13R5)

def n13R7 : Pt := (.fork (.lt (.v 0) (.c 0)) .done n13R6)

theorem n13o0 (a2 : Int) (h0 : (-9223372036854775808 : Int) ≤ a2) (h1 : a2 ≤ (9223372036854775807 : Int)) (h2 : ¬ a2 < (2 : Int)) (h3 : ¬ (4 : Int) < a2) (h4 : ¬ (3 : Int) = a2) (h5 : ¬ (4 : Int) = a2) : (2 : Int) = a2 := by omega

theorem n13o1 (a1 : Int) (h0 : (-9223372036854775808 : Int) ≤ a1) (h1 : a1 ≤ (9223372036854775807 : Int)) (h2 : ¬ a1 < (0 : Int)) (h3 : ¬ (3 : Int) < a1) (h4 : ¬ (0 : Int) = a1) (h5 : ¬ (1 : Int) = a1) (h6 : ¬ (2 : Int) = a1) : (3 : Int) = a1 := by omega

theorem n13o2 (a2 : Int) (h0 : (-9223372036854775808 : Int) ≤ a2) (h1 : a2 ≤ (9223372036854775807 : Int)) (h2 : ¬ a2 < (2 : Int)) (h3 : ¬ (4 : Int) < a2) (h4 : ¬ (2 : Int) = a2) (h5 : ¬ (4 : Int) = a2) : (3 : Int) = a2 := by omega

theorem n13o3 (a2 : Int) (h0 : (-9223372036854775808 : Int) ≤ a2) (h1 : a2 ≤ (9223372036854775807 : Int)) (h2 : ¬ a2 < (2 : Int)) (h3 : ¬ (4 : Int) < a2) (h4 : ¬ (2 : Int) = a2) (h5 : ¬ (3 : Int) = a2) : (4 : Int) = a2 := by omega

theorem n13t0 (a1 a2 : Int) (l0 : (-9223372036854775808 : Int) ≤ a1) (u0 : a1 ≤ (9223372036854775807 : Int)) (l1 : (-9223372036854775808 : Int) ≤ a2) (u1 : a2 ≤ (9223372036854775807 : Int)) : n13R7.holds [a1, a2] := by
  refine Pt.h_fork (fun (f0 : a1 < (0 : Int)) => ?_) (fun (f0 : ¬ a1 < (0 : Int)) => ?_)
  · skip
    exact Pt.h_done
  · skip
    refine Pt.h_fork (fun (f1 : (3 : Int) < a1) => ?_) (fun (f1 : ¬ (3 : Int) < a1) => ?_)
    · skip
      exact Pt.h_done
    · skip
      refine Pt.h_fork (fun (f2 : a2 < (2 : Int)) => ?_) (fun (f2 : ¬ a2 < (2 : Int)) => ?_)
      · skip
        exact Pt.h_done
      · skip
        refine Pt.h_fork (fun (f3 : (4 : Int) < a2) => ?_) (fun (f3 : ¬ (4 : Int) < a2) => ?_)
        · skip
          exact Pt.h_done
        · skip
          refine Pt.h_fork (fun (f4 : (0 : Int) = a1) => ?_) (fun (f4 : ¬ (0 : Int) = a1) => ?_)
          · skip
            refine Pt.h_fork (fun (f5 : (3 : Int) = a2) => ?_) (fun (f5 : ¬ (3 : Int) = a2) => ?_)
            · skip
              exact Pt.h_done
            · skip
              refine Pt.h_fork (fun (f6 : (4 : Int) = a2) => ?_) (fun (f6 : ¬ (4 : Int) = a2) => ?_)
              · skip
                exact Pt.h_done
              · skip
                refine Pt.h_yes (show (2 : Int) = a2 from (n13o0 a2 l1 u1 f2 f3 f5 f6)) ?_
                exact Pt.h_done
          · skip
            refine Pt.h_fork (fun (f5 : (2 : Int) = a2) => ?_) (fun (f5 : ¬ (2 : Int) = a2) => ?_)
            · skip
              refine Pt.h_fork (fun (f6 : (1 : Int) = a1) => ?_) (fun (f6 : ¬ (1 : Int) = a1) => ?_)
              · skip
                exact Pt.h_done
              · skip
                refine Pt.h_fork (fun (f7 : (2 : Int) = a1) => ?_) (fun (f7 : ¬ (2 : Int) = a1) => ?_)
                · skip
                  exact Pt.h_done
                · skip
                  refine Pt.h_yes (show (3 : Int) = a1 from (n13o1 a1 l0 u0 f0 f1 f4 f6 f7)) ?_
                  exact Pt.h_done
            · skip
              refine Pt.h_fork (fun (f6 : (1 : Int) = a1) => ?_) (fun (f6 : ¬ (1 : Int) = a1) => ?_)
              · skip
                refine Pt.h_fork (fun (f7 : (4 : Int) = a2) => ?_) (fun (f7 : ¬ (4 : Int) = a2) => ?_)
                · skip
                  exact Pt.h_done
                · skip
                  refine Pt.h_yes (show (3 : Int) = a2 from (n13o2 a2 l1 u1 f2 f3 f5 f7)) ?_
                  exact Pt.h_done
              · skip
                refine Pt.h_fork (fun (f7 : (3 : Int) = a2) => ?_) (fun (f7 : ¬ (3 : Int) = a2) => ?_)
                · skip
                  refine Pt.h_fork (fun (f8 : (2 : Int) = a1) => ?_) (fun (f8 : ¬ (2 : Int) = a1) => ?_)
                  · skip
                    exact Pt.h_done
                  · skip
                    refine Pt.h_yes (show (3 : Int) = a1 from (n13o1 a1 l0 u0 f0 f1 f4 f6 f8)) ?_
                    exact Pt.h_done
                · skip
                  refine Pt.h_fork (fun (f8 : (2 : Int) = a1) => ?_) (fun (f8 : ¬ (2 : Int) = a1) => ?_)
                  · skip
                    refine Pt.h_yes (show (4 : Int) = a2 from (n13o3 a2 l1 u1 f2 f3 f5 f7)) ?_
                    exact Pt.h_done
                  · skip
                    refine Pt.h_yes (show (4 : Int) = a2 from (n13o3 a2 l1 u1 f2 f3 f5 f7)) ?_
                    refine Pt.h_yes (show (3 : Int) = a1 from (n13o1 a1 l0 u0 f0 f1 f4 f6 f8)) ?_
                    exact Pt.h_done

theorem n13rest : auto n13T9 [(-9223372036854775808, 9223372036854775807), (-9223372036854775808, 9223372036854775807)] = n13R7 := by kernel_rfl
theorem n13all (a1 a2 : Int) (l0 : (-9223372036854775808 : Int) ≤ a1) (u0 : a1 ≤ (9223372036854775807 : Int)) (l1 : (-9223372036854775808 : Int) ≤ a2) (u1 : a2 ≤ (9223372036854775807 : Int))  : n13T9.holds [a1, a2] :=
  holds_auto n13rest (fits_cons l0 u0 (fits_cons l1 u1 fits_nil)) (n13t0 a1 a2 l0 u0 l1 u1 )

def n14T0 : Pt := (.no (.eq (.c 1) (.v 0)) (.fork (.eq (.c 3) (.v 1)) (.no (.eq (.c 2) (.v 0)) (.no (.eq (.c 4) (.v 1)) (.no (.eq (.c 3) (.v 0)) (.no (.eq (.c 2) (.v 1)) (.is (.wr .u8 (.v 0)) (.c 0) .done))))) (.no (.eq (.c 2) (.v 0)) (.fork (.eq (.c 4) (.v 1)) (.no (.eq (.c 3) (.v 0)) (.no (.eq (.c 2) (.v 1)) (.is (.wr .u8 (.v 0)) (.c 0) .done))) (.no (.eq (.c 3) (.v 0)) (.yes (.eq (.c 2) (.v 1)) (.is (.wr .u8 (.v 0)) (.c 0) .done)))))))

def n14T1 : Pt := (.fork (.eq (.c 1) (.v 0)) (.no (.eq (.c 2) (.v 0)) (.no (.eq (.c 4) (.v 1)) (.no (.eq (.c 3) (.v 0)) (.no (.eq (.c 3) (.v 1)) (.is (.wr .u8 (.v 0)) (.c 1) .done))))) (.no (.eq (.c 3) (.v 1)) (.fork (.eq (.c 2) (.v 0)) (.no (.eq (.c 4) (.v 1)) (.no (.eq (.c 3) (.v 0)) (.is (.wr .u8 (.v 0)) (.c 2) .done))) (.no (.eq (.c 4) (.v 1)) (.yes (.eq (.c 3) (.v 0)) (.is (.wr .u8 (.v 0)) (.c 3) .done))))))

def n14T2 : Pt := (.fork (.eq (.c 3) (.v 1)) (.fork (.eq (.c 2) (.v 0)) (.no (.eq (.c 4) (.v 1)) (.no (.eq (.c 3) (.v 0)) (.is (.wr .u8 (.v 0)) (.c 2) .done))) (.no (.eq (.c 4) (.v 1)) (.yes (.eq (.c 3) (.v 0)) (.is (.wr .u8 (.v 0)) (.c 3) .done)))) (.fork (.eq (.c 2) (.v 0)) (.yes (.eq (.c 4) (.v 1)) (.no (.eq (.c 3) (.v 0)) (.is (.wr .u8 (.v 0)) (.c 2) .done))) (.yes (.eq (.c 4) (.v 1)) (.yes (.eq (.c 3) (.v 0)) (.is (.wr .u8 (.v 0)) (.c 3) .done)))))

def n14T3 : Pt := (.fork (.eq (.c 1) (.v 0)) (.no (.eq (.c 2) (.v 0)) (.fork (.eq (.c 4) (.v 1)) (.no (.eq (.c 3) (.v 0)) (.no (.eq (.c 3) (.v 1)) (.is (.wr .u8 (.v 0)) (.c 1) .done))) (.no (.eq (.c 3) (.v 0)) (.yes (.eq (.c 3) (.v 1)) (.is (.wr .u8 (.v 0)) (.c 1) .done))))) n14T2)

def n14T4 : Pt := (.fork (.eq (.c 2) (.v 1)) n14T1 n14T3)

def n14T5 : Pt := (.fork (.eq (.c 0) (.v 0)) n14T0 n14T4)

def n14T6 : Pt := (.fork (.lt (.c 4) (.v 1)) .done n14T5)

def n14T7 : Pt := (.fork (.lt (.v 1) (.c 2)) .done n14T6)

def n14T8 : Pt := (.fork (.lt (.c 3) (.v 0)) .done n14T7)

def n14T9 : Pt := (.fork (.lt (.v 0) (.c 0)) .done n14T8)

def n14R0 : Pt := (.fork (.eq (.c 3) (.v 1)) (.fork (.eq (.c 2) (.v 0)) .done (.yes (.eq (.c 3) (.v 0)) .done)) (.fork (.eq (.c 2) (.v 0)) (.yes (.eq (.c 4) (.v 1)) .done) (.yes (.eq (.c 4) (.v 1)) (.yes (.eq (.c 3) (.v 0)) .done))))

def n14R1 : Pt := (.fork (.eq (.c 1) (.v 0)) (.fork (.eq (.c 4) (.v 1)) .done (.yes (.eq (.c 3) (.v 1)) .done)) n14R0)

def n14R2 : Pt := (.fork (.eq (.c 2) (.v 1)) (.fork (.eq (.c 1) (.v 0)) .done (.fork (.eq (.c 2) (.v 0)) .done (.yes (.eq (.c 3) (.v 0)) .done))) n14R1)

def n14R3 : Pt := (.fork (.eq (.c 0) (.v 0)) (.fork (.eq (.c 3) (.v 1)) .done (.fork (.eq (.c 4) (.v 1)) .done (.yes (.eq (.c 2) (.v 1)) .done))) n14R2)

def n14R4 : Pt := (.fork (.lt (.c 4) (.v 1)) .done n14R3)

def n14R5 : Pt := (.fork (.lt (.v 1) (.c 2)) .done n14R4)

def n14R6 : Pt := (.fork (.lt (.c 3) (.v 0)) .done n14R5)

def n14R7 : Pt := (.fork (.lt (.v 0) (.c 0)) .done n14R6)

theorem n14o0 (a2 : Int) (h0 : (-9223372036854775808 : Int) ≤ a2) (h1 : a2 ≤ (9223372036854775807 : Int)) (h2 : ¬ a2 < (2 : Int)) (h3 : ¬ (4 : Int) < a2) (h4 : ¬ (3 : Int) = a2) (h5 : ¬ (4 : Int) = a2) : (2 : Int) = a2 := by omega

theorem n14o1 (a1 : Int) (h0 : (-9223372036854775808 : Int) ≤ a1) (h1 : a1 ≤ (9223372036854775807 : Int)) (h2 : ¬ a1 < (0 : Int)) (h3 : ¬ (3 : Int) < a1) (h4 : ¬ (0 : Int) = a1) (h5 : ¬ (1 : Int) = a1) (h6 : ¬ (2 : Int) = a1) : (3 : Int) = a1 := by omega

theorem n14o2 (a2 : Int) (h0 : (-9223372036854775808 : Int) ≤ a2) (h1 : a2 ≤ (9223372036854775807 : Int)) (h2 : ¬ a2 < (2 : Int)) (h3 : ¬ (4 : Int) < a2) (h4 : ¬ (2 : Int) = a2) (h5 : ¬ (4 : Int) = a2) : (3 : Int) = a2 := by omega

theorem n14o3 (a2 : Int) (h0 : (-9223372036854775808 : Int) ≤ a2) (h1 : a2 ≤ (9223372036854775807 : Int)) (h2 : ¬ a2 < (2 : Int)) (h3 : ¬ (4 : Int) < a2) (h4 : ¬ (2 : Int) = a2) (h5 : ¬ (3 : Int) = a2) : (4 : Int) = a2 := by omega

theorem n14t0 (a1 a2 : Int) (l0 : (-9223372036854775808 : Int) ≤ a1) (u0 : a1 ≤ (9223372036854775807 : Int)) (l1 : (-9223372036854775808 : Int) ≤ a2) (u1 : a2 ≤ (9223372036854775807 : Int)) : n14R7.holds [a1, a2] := by
  refine Pt.h_fork (fun (f0 : a1 < (0 : Int)) => ?_) (fun (f0 : ¬ a1 < (0 : Int)) => ?_)
  · skip
    exact Pt.h_done
  · skip
    refine Pt.h_fork (fun (f1 : (3 : Int) < a1) => ?_) (fun (f1 : ¬ (3 : Int) < a1) => ?_)
    · skip
      exact Pt.h_done
    · skip
      refine Pt.h_fork (fun (f2 : a2 < (2 : Int)) => ?_) (fun (f2 : ¬ a2 < (2 : Int)) => ?_)
      · skip
        exact Pt.h_done
      · skip
        refine Pt.h_fork (fun (f3 : (4 : Int) < a2) => ?_) (fun (f3 : ¬ (4 : Int) < a2) => ?_)
        · skip
          exact Pt.h_done
        · skip
          refine Pt.h_fork (fun (f4 : (0 : Int) = a1) => ?_) (fun (f4 : ¬ (0 : Int) = a1) => ?_)
          · skip
            refine Pt.h_fork (fun (f5 : (3 : Int) = a2) => ?_) (fun (f5 : ¬ (3 : Int) = a2) => ?_)
            · skip
              exact Pt.h_done
            · skip
              refine Pt.h_fork (fun (f6 : (4 : Int) = a2) => ?_) (fun (f6 : ¬ (4 : Int) = a2) => ?_)
              · skip
                exact Pt.h_done
              · skip
                refine Pt.h_yes (show (2 : Int) = a2 from (n14o0 a2 l1 u1 f2 f3 f5 f6)) ?_
                exact Pt.h_done
          · skip
            refine Pt.h_fork (fun (f5 : (2 : Int) = a2) => ?_) (fun (f5 : ¬ (2 : Int) = a2) => ?_)
            · skip
              refine Pt.h_fork (fun (f6 : (1 : Int) = a1) => ?_) (fun (f6 : ¬ (1 : Int) = a1) => ?_)
              · skip
                exact Pt.h_done
              · skip
                refine Pt.h_fork (fun (f7 : (2 : Int) = a1) => ?_) (fun (f7 : ¬ (2 : Int) = a1) => ?_)
                · skip
                  exact Pt.h_done
                · skip
                  refine Pt.h_yes (show (3 : Int) = a1 from (n14o1 a1 l0 u0 f0 f1 f4 f6 f7)) ?_
                  exact Pt.h_done
            · skip
              refine Pt.h_fork (fun (f6 : (1 : Int) = a1) => ?_) (fun (f6 : ¬ (1 : Int) = a1) => ?_)
              · skip
                refine Pt.h_fork (fun (f7 : (4 : Int) = a2) => ?_) (fun (f7 : ¬ (4 : Int) = a2) => ?_)
                · skip
                  exact Pt.h_done
                · skip
                  refine Pt.h_yes (show (3 : Int) = a2 from (n14o2 a2 l1 u1 f2 f3 f5 f7)) ?_
                  exact Pt.h_done
              · skip
                refine Pt.h_fork (fun (f7 : (3 : Int) = a2) => ?_) (fun (f7 : ¬ (3 : Int) = a2) => ?_)
                · skip
                  refine Pt.h_fork (fun (f8 : (2 : Int) = a1) => ?_) (fun (f8 : ¬ (2 : Int) = a1) => ?_)
                  · skip
                    exact Pt.h_done
                  · skip
                    refine Pt.h_yes (show (3 : Int) = a1 from (n14o1 a1 l0 u0 f0 f1 f4 f6 f8)) ?_
                    exact Pt.h_done
                · skip
                  refine Pt.h_fork (fun (f8 : (2 : Int) = a1) => ?_) (fun (f8 : ¬ (2 : Int) = a1) => ?_)
                  · skip
                    refine Pt.h_yes (show (4 : Int) = a2 from (n14o3 a2 l1 u1 f2 f3 f5 f7)) ?_
                    exact Pt.h_done
                  · skip
                    refine Pt.h_yes (show (4 : Int) = a2 from (n14o3 a2 l1 u1 f2 f3 f5 f7)) ?_
                    refine Pt.h_yes (show (3 : Int) = a1 from (n14o1 a1 l0 u0 f0 f1 f4 f6 f8)) ?_
                    exact Pt.h_done

theorem n14rest : auto n14T9 [(-9223372036854775808, 9223372036854775807), (-9223372036854775808, 9223372036854775807)] = n14R7 := by kernel_rfl
theorem n14all (a1 a2 : Int) (l0 : (-9223372036854775808 : Int) ≤ a1) (u0 : a1 ≤ (9223372036854775807 : Int)) (l1 : (-9223372036854775808 : Int) ≤ a2) (u1 : a2 ≤ (9223372036854775807 : Int))  : n14T9.holds [a1, a2] :=
  holds_auto n14rest (fits_cons l0 u0 (fits_cons l1 u1 fits_nil)) (n14t0 a1 a2 l0 u0 l1 u1 )

def n15T0 : Pt := (.no (.eq (.c 1) (.v 0)) (.fork (.eq (.c 3) (.v 1)) (.no (.eq (.c 2) (.v 0)) (.no (.eq (.c 4) (.v 1)) (.no (.eq (.c 3) (.v 0)) (.no (.eq (.c 2) (.v 1)) (.is (.wr .u8 (.v 0)) (.c 0) .done))))) (.no (.eq (.c 2) (.v 0)) (.fork (.eq (.c 4) (.v 1)) (.no (.eq (.c 3) (.v 0)) (.no (.eq (.c 2) (.v 1)) (.is (.wr .u8 (.v 0)) (.c 0) .done))) (.no (.eq (.c 3) (.v 0)) (.yes (.eq (.c 2) (.v 1)) (.is (.wr .u8 (.v 0)) (.c 0) .done)))))))

def n15T1 : Pt := (.fork (.eq (.c 1) (.v 0)) (.no (.eq (.c 2) (.v 0)) (.no (.eq (.c 4) (.v 1)) (.no (.eq (.c 3) (.v 0)) (.no (.eq (.c 3) (.v 1)) (.is (.wr .u8 (.v 0)) (.c 1) .done))))) (.no (.eq (.c 3) (.v 1)) (.fork (.eq (.c 2) (.v 0)) (.no (.eq (.c 4) (.v 1)) (.no (.eq (.c 3) (.v 0)) (.is (.wr .u8 (.v 0)) (.c 2) .done))) (.no (.eq (.c 4) (.v 1)) (.yes (.eq (.c 3) (.v 0)) (.is (.wr .u8 (.v 0)) (.c 3) .done))))))

def n15T2 : Pt := (.fork (.eq (.c 3) (.v 1)) (.fork (.eq (.c 2) (.v 0)) (.no (.eq (.c 4) (.v 1)) (.no (.eq (.c 3) (.v 0)) (.is (.wr .u8 (.v 0)) (.c 2) .done))) (.no (.eq (.c 4) (.v 1)) (.yes (.eq (.c 3) (.v 0)) (.is (.wr .u8 (.v 0)) (.c 3) .done)))) (.fork (.eq (.c 2) (.v 0)) (.yes (.eq (.c 4) (.v 1)) (.no (.eq (.c 3) (.v 0)) (.is (.wr .u8 (.v 0)) (.c 2) .done))) (.yes (.eq (.c 4) (.v 1)) (.yes (.eq (.c 3) (.v 0)) (.is (.wr .u8 (.v 0)) (.c 3) .done)))))

def n15T3 : Pt := (.fork (.eq (.c 1) (.v 0)) (.no (.eq (.c 2) (.v 0)) (.fork (.eq (.c 4) (.v 1)) (.no (.eq (.c 3) (.v 0)) (.no (.eq (.c 3) (.v 1)) (.is (.wr .u8 (.v 0)) (.c 1) .done))) (.no (.eq (.c 3) (.v 0)) (.yes (.eq (.c 3) (.v 1)) (.is (.wr .u8 (.v 0)) (.c 1) .done))))) n15T2)

def n15T4 : Pt := (.fork (.eq (.c 2) (.v 1)) n15T1 n15T3)

def n15T5 : Pt := (.fork (.eq (.c 0) (.v 0)) n15T0 n15T4)

def n15T6 : Pt := (.fork (.lt (.c 4) (.v 1)) .done n15T5)

def n15T7 : Pt := (.fork (.lt (.v 1) (.c 2)) .done n15T6)

def n15T8 : Pt := (.fork (.lt (.c 3) (.v 0)) .done n15T7)

def n15T9 : Pt := (.fork (.lt (.v 0) (.c 0)) .done n15T8)

def n15R0 : Pt := (.fork (.eq (.c 3) (.v 1)) (.fork (.eq (.c 2) (.v 0)) .done (.yes (.eq (.c 3) (.v 0)) .done)) (.fork (.eq (.c 2) (.v 0)) (.yes (.eq (.c 4) (.v 1)) .done) (.yes (.eq (.c 4) (.v 1)) (.yes (.eq (.c 3) (.v 0)) .done))))

def n15R1 : Pt := (.fork (.eq (.c 1) (.v 0)) (.fork (.eq (.c 4) (.v 1)) .done (.yes (.eq (.c 3) (.v 1)) .done)) n15R0)

def n15R2 : Pt := (.fork (.eq (.c 2) (.v 1)) (.fork (.eq (.c 1) (.v 0)) .done (.fork (.eq (.c 2) (.v 0)) .done (.yes (.eq (.c 3) (.v 0)) .done))) n15R1)

def n15R3 : Pt := (.fork (.eq (.c 0) (.v 0)) (.fork (.eq (.c 3) (.v 1)) .done (.fork (.eq (.c 4) (.v 1)) .done (.yes (.eq (.c 2) (.v 1)) .done))) n15R2)

def n15R4 : Pt := (.fork (.lt (.c 4) (.v 1)) .done n15R3)

def n15R5 : Pt := (.fork (.lt (.v 1) (.c 2)) .done n15R4)

def n15R6 : Pt := (.fork (.lt (.c 3) (.v 0)) .done n15R5)

def n15R7 : Pt := (.fork (.lt (.v 0) (.c 0)) .done n15R6)

theorem n15o0 (a2 : Int) (h0 : (-9223372036854775808 : Int) ≤ a2) (h1 : a2 ≤ (9223372036854775807 : Int)) (h2 : ¬ a2 < (2 : Int)) (h3 : ¬ (4 : Int) < a2) (h4 : ¬ (3 : Int) = a2) (h5 : ¬ (4 : Int) = a2) : (2 : Int) = a2 := by omega

theorem n15o1 (a1 : Int) (h0 : (-9223372036854775808 : Int) ≤ a1) (h1 : a1 ≤ (9223372036854775807 : Int)) (h2 : ¬ a1 < (0 : Int)) (h3 : ¬ (3 : Int) < a1) (h4 : ¬ (0 : Int) = a1) (h5 : ¬ (1 : Int) = a1) (h6 : ¬ (2 : Int) = a1) : (3 : Int) = a1 := by omega

theorem n15o2 (a2 : Int) (h0 : (-9223372036854775808 : Int) ≤ a2) (h1 : a2 ≤ (9223372036854775807 : Int)) (h2 : ¬ a2 < (2 : Int)) (h3 : ¬ (4 : Int) < a2) (h4 : ¬ (2 : Int) = a2) (h5 : ¬ (4 : Int) = a2) : (3 : Int) = a2 := by omega

theorem n15o3 (a2 : Int) (h0 : (-9223372036854775808 : Int) ≤ a2) (h1 : a2 ≤ (9223372036854775807 : Int)) (h2 : ¬ a2 < (2 : Int)) (h3 : ¬ (4 : Int) < a2) (h4 : ¬ (2 : Int) = a2) (h5 : ¬ (3 : Int) = a2) : (4 : Int) = a2 := by omega

theorem n15t0 (a1 a2 : Int) (l0 : (-9223372036854775808 : Int) ≤ a1) (u0 : a1 ≤ (9223372036854775807 : Int)) (l1 : (-9223372036854775808 : Int) ≤ a2) (u1 : a2 ≤ (9223372036854775807 : Int)) : n15R7.holds [a1, a2] := by
  refine Pt.h_fork (fun (f0 : a1 < (0 : Int)) => ?_) (fun (f0 : ¬ a1 < (0 : Int)) => ?_)
  · skip
    exact Pt.h_done
  · skip
    refine Pt.h_fork (fun (f1 : (3 : Int) < a1) => ?_) (fun (f1 : ¬ (3 : Int) < a1) => ?_)
    · skip
      exact Pt.h_done
    · skip
      refine Pt.h_fork (fun (f2 : a2 < (2 : Int)) => ?_) (fun (f2 : ¬ a2 < (2 : Int)) => ?_)
      · skip
        exact Pt.h_done
      · skip
        refine Pt.h_fork (fun (f3 : (4 : Int) < a2) => ?_) (fun (f3 : ¬ (4 : Int) < a2) => ?_)
        · skip
          exact Pt.h_done
        · skip
          refine Pt.h_fork (fun (f4 : (0 : Int) = a1) => ?_) (fun (f4 : ¬ (0 : Int) = a1) => ?_)
          · skip
            refine Pt.h_fork (fun (f5 : (3 : Int) = a2) => ?_) (fun (f5 : ¬ (3 : Int) = a2) => ?_)
            · skip
              exact Pt.h_done
            · skip
              refine Pt.h_fork (fun (f6 : (4 : Int) = a2) => ?_) (fun (f6 : ¬ (4 : Int) = a2) => ?_)
              · skip
                exact Pt.h_done
              · skip
                refine Pt.h_yes (show (2 : Int) = a2 from (n15o0 a2 l1 u1 f2 f3 f5 f6)) ?_
                exact Pt.h_done
          · skip
            refine Pt.h_fork (fun (f5 : (2 : Int) = a2) => ?_) (fun (f5 : ¬ (2 : Int) = a2) => ?_)
            · skip
              refine Pt.h_fork (fun (f6 : (1 : Int) = a1) => ?_) (fun (f6 : ¬ (1 : Int) = a1) => ?_)
              · skip
                exact Pt.h_done
              · skip
                refine Pt.h_fork (fun (f7 : (2 : Int) = a1) => ?_) (fun (f7 : ¬ (2 : Int) = a1) => ?_)
                · skip
                  exact Pt.h_done
                · skip
                  refine Pt.h_yes (show (3 : Int) = a1 from (n15o1 a1 l0 u0 f0 f1 f4 f6 f7)) ?_
                  exact Pt.h_done
            · skip
              refine Pt.h_fork (fun (f6 : (1 : Int) = a1) => ?_) (fun (f6 : ¬ (1 : Int) = a1) => ?_)
              · skip
                refine Pt.h_fork (fun (f7 : (4 : Int) = a2) => ?_) (fun (f7 : ¬ (4 : Int) = a2) => ?_)
                · skip
                  exact Pt.h_done
                · skip
                  refine Pt.h_yes (show (3 : Int) = a2 from (n15o2 a2 l1 u1 f2 f3 f5 f7)) ?_
                  exact Pt.h_done
              · skip
                refine Pt.h_fork (fun (f7 : (3 : Int) = a2) => ?_) (fun (f7 : ¬ (3 : Int) = a2) => ?_)
                · skip
                  refine Pt.h_fork (fun (f8 : (2 : Int) = a1) => ?_) (fun (f8 : ¬ (2 : Int) = a1) => ?_)
                  · skip
                    exact Pt.h_done
                  · skip
                    refine Pt.h_yes (show (3 : Int) = a1 from (n15o1 a1 l0 u0 f0 f1 f4 f6 f8)) ?_
                    exact Pt.h_done
                · skip
                  refine Pt.h_fork (fun (f8 : (2 : Int) = a1) => ?_) (fun (f8 : ¬ (2 : Int) = a1) => ?_)
                  · skip
                    refine Pt.h_yes (show (4 : Int) = a2 from (n15o3 a2 l1 u1 f2 f3 f5 f7)) ?_
                    exact Pt.h_done
                  · skip
                    refine Pt.h_yes (show (4 : Int) = a2 from (n15o3 a2 l1 u1 f2 f3 f5 f7)) ?_
                    refine Pt.h_yes (show (3 : Int) = a1 from (n15o1 a1 l0 u0 f0 f1 f4 f6 f8)) ?_
                    exact Pt.h_done

theorem n15rest : auto n15T9 [(-9223372036854775808, 9223372036854775807), (-9223372036854775808, 9223372036854775807)] = n15R7 := by kernel_rfl
theorem n15all (a1 a2 : Int) (l0 : (-9223372036854775808 : Int) ≤ a1) (u0 : a1 ≤ (9223372036854775807 : Int)) (l1 : (-9223372036854775808 : Int) ≤ a2) (u1 : a2 ≤ (9223372036854775807 : Int))  : n15T9.holds [a1, a2] :=
  holds_auto n15rest (fits_cons l0 u0 (fits_cons l1 u1 fits_nil)) (n15t0 a1 a2 l0 u0 l1 u1 )

def n16T0 : Pt := (.no (.eq (.c 1) (.v 0)) (.fork (.eq (.c 3) (.v 1)) (.no (.eq (.c 2) (.v 0)) (.no (.eq (.c 4) (.v 1)) (.no (.eq (.c 3) (.v 0)) (.no (.eq (.c 2) (.v 1)) (.is (.wr .u8 (.v 0)) (.c 0) .done))))) (.no (.eq (.c 2) (.v 0)) (.fork (.eq (.c 4) (.v 1)) (.no (.eq (.c 3) (.v 0)) (.no (.eq (.c 2) (.v 1)) (.is (.wr .u8 (.v 0)) (.c 0) .done))) (.no (.eq (.c 3) (.v 0)) (.yes (.eq (.c 2) (.v 1)) (.is (.wr .u8 (.v 0)) (.c 0) .done)))))))

def n16T1 : Pt := (.fork (.eq (.c 1) (.v 0)) (.no (.eq (.c 2) (.v 0)) (.no (.eq (.c 4) (.v 1)) (.no (.eq (.c 3) (.v 0)) (.no (.eq (.c 3) (.v 1)) (.is (.wr .u8 (.v 0)) (.c 1) .done))))) (.no (.eq (.c 3) (.v 1)) (.fork (.eq (.c 2) (.v 0)) (.no (.eq (.c 4) (.v 1)) (.no (.eq (.c 3) (.v 0)) (.is (.wr .u8 (.v 0)) (.c 2) .done))) (.no (.eq (.c 4) (.v 1)) (.yes (.eq (.c 3) (.v 0)) (.is (.wr .u8 (.v 0)) (.c 3) .done))))))

def n16T2 : Pt := (.fork (.eq (.c 3) (.v 1)) (.fork (.eq (.c 2) (.v 0)) (.no (.eq (.c 4) (.v 1)) (.no (.eq (.c 3) (.v 0)) (.is (.wr .u8 (.v 0)) (.c 2) .done))) (.no (.eq (.c 4) (.v 1)) (.yes (.eq (.c 3) (.v 0)) (.is (.wr .u8 (.v 0)) (.c 3) .done)))) (.fork (.eq (.c 2) (.v 0)) (.yes (.eq (.c 4) (.v 1)) (.no (.eq (.c 3) (.v 0)) (.is (.wr .u8 (.v 0)) (.c 2) .done))) (.yes (.eq (.c 4) (.v 1)) (.yes (.eq (.c 3) (.v 0)) (.is (.wr .u8 (.v 0)) (.c 3) .done)))))

def n16T3 : Pt := (.fork (.eq (.c 1) (.v 0)) (.no (.eq (.c 2) (.v 0)) (.fork (.eq (.c 4) (.v 1)) (.no (.eq (.c 3) (.v 0)) (.no (.eq (.c 3) (.v 1)) (.is (.wr .u8 (.v 0)) (.c 1) .done))) (.no (.eq (.c 3) (.v 0)) (.yes (.eq (.c 3) (.v 1)) (.is (.wr .u8 (.v 0)) (.c 1) .done))))) n16T2)

def n16T4 : Pt := (.fork (.eq (.c 2) (.v 1)) n16T1 n16T3)

def n16T5 : Pt := (.fork (.eq (.c 0) (.v 0)) n16T0 n16T4)

def n16T6 : Pt := (.fork (.lt (.c 4) (.v 1)) .done n16T5)

def n16T7 : Pt := (.fork (.lt (.v 1) (.c 2)) .done n16T6)

def n16T8 : Pt := (.fork (.lt (.c 3) (.v 0)) .done n16T7)

def n16T9 : Pt := (.fork (.lt (.v 0) (.c 0)) .done n16T8)

def n16R0 : Pt := (.fork (.eq (.c 3) (.v 1)) (.fork (.eq (.c 2) (.v 0)) .done (.yes (.eq (.c 3) (.v 0)) .done)) (.fork (.eq (.c 2) (.v 0)) (.yes (.eq (.c 4) (.v 1)) .done) (.yes (.eq (.c 4) (.v 1)) (.yes (.eq (.c 3) (.v 0)) .done))))

def n16R1 : Pt := (.fork (.eq (.c 1) (.v 0)) (.fork (.eq (.c 4) (.v 1)) .done (.yes (.eq (.c 3) (.v 1)) .done)) n16R0)

def n16R2 : Pt := (.fork (.eq (.c 2) (.v 1)) (.fork (.eq (.c 1) (.v 0)) .done (.fork (.eq (.c 2) (.v 0)) .done (.yes (.eq (.c 3) (.v 0)) .done))) n16R1)

def n16R3 : Pt := (.fork (.eq (.c 0) (.v 0)) (.fork (.eq (.c 3) (.v 1)) .done (.fork (.eq (.c 4) (.v 1)) .done (.yes (.eq (.c 2) (.v 1)) .done))) n16R2)

def n16R4 : Pt := (.fork (.lt (.c 4) (.v 1)) .done n16R3)

def n16R5 : Pt := (.fork (.lt (.v 1) (.c 2)) .done n16R4)

def n16R6 : Pt := (.fork (.lt (.c 3) (.v 0)) .done n16R5)

def n16R7 : Pt := (.fork (.lt (.v 0) (.c 0)) .done n16R6)

theorem n16o0 (a2 : Int) (h0 : (-9223372036854775808 : Int) ≤ a2) (h1 : a2 ≤ (9223372036854775807 : Int)) (h2 : ¬ a2 < (2 : Int)) (h3 : ¬ (4 : Int) < a2) (h4 : ¬ (3 : Int) = a2) (h5 : ¬ (4 : Int) = a2) : (2 : Int) = a2 := by omega

theorem n16o1 (a1 : Int) (h0 : (-9223372036854775808 : Int) ≤ a1) (h1 : a1 ≤ (9223372036854775807 : Int)) (h2 : ¬ a1 < (0 : Int)) (h3 : ¬ (3 : Int) < a1) (h4 : ¬ (0 : Int) = a1) (h5 : ¬ (1 : Int) = a1) (h6 : ¬ (2 : Int) = a1) : (3 : Int) = a1 := by omega

theorem n16o2 (a2 : Int) (h0 : (-9223372036854775808 : Int) ≤ a2) (h1 : a2 ≤ (9223372036854775807 : Int)) (h2 : ¬ a2 < (2 : Int)) (h3 : ¬ (4 : Int) < a2) (h4 : ¬ (2 : Int) = a2) (h5 : ¬ (4 : Int) = a2) : (3 : Int) = a2 := by omega

theorem n16o3 (a2 : Int) (h0 : (-9223372036854775808 : Int) ≤ a2) (h1 : a2 ≤ (9223372036854775807 : Int)) (h2 : ¬ a2 < (2 : Int)) (h3 : ¬ (4 : Int) < a2) (h4 : ¬ (2 : Int) = a2) (h5 : ¬ (3 : Int) = a2) : (4 : Int) = a2 := by omega

theorem n16t0 (a1 a2 : Int) (l0 : (-9223372036854775808 : Int) ≤ a1) (u0 : a1 ≤ (9223372036854775807 : Int)) (l1 : (-9223372036854775808 : Int) ≤ a2) (u1 : a2 ≤ (9223372036854775807 : Int)) : n16R7.holds [a1, a2] := by
  refine Pt.h_fork (fun (f0 : a1 < (0 : Int)) => ?_) (fun (f0 : ¬ a1 < (0 : Int)) => ?_)
  · skip
    exact Pt.h_done
  · skip
    refine Pt.h_fork (fun (f1 : (3 : Int) < a1) => ?_) (fun (f1 : ¬ (3 : Int) < a1) => ?_)
    · skip
      exact Pt.h_done
    · skip
      refine Pt.h_fork (fun (f2 : a2 < (2 : Int)) => ?_) (fun (f2 : ¬ a2 < (2 : Int)) => ?_)
      · skip
        exact Pt.h_done
      · skip
        refine Pt.h_fork (fun (f3 : (4 : Int) < a2) => ?_) (fun (f3 : ¬ (4 : Int) < a2) => ?_)
        · skip
          exact Pt.h_done
        · skip
          refine Pt.h_fork (fun (f4 : (0 : Int) = a1) => ?_) (fun (f4 : ¬ (0 : Int) = a1) => ?_)
          · skip
            refine Pt.h_fork (fun (f5 : (3 : Int) = a2) => ?_) (fun (f5 : ¬ (3 : Int) = a2) => ?_)
            · skip
              exact Pt.h_done
            · skip
              refine Pt.h_fork (fun (f6 : (4 : Int) = a2) => ?_) (fun (f6 : ¬ (4 : Int) = a2) => ?_)
              · skip
                exact Pt.h_done
              · skip
                refine Pt.h_yes (show (2 : Int) = a2 from (n16o0 a2 l1 u1 f2 f3 f5 f6)) ?_
                exact Pt.h_done
          · skip
            refine Pt.h_fork (fun (f5 : (2 : Int) = a2) => ?_) (fun (f5 : ¬ (2 : Int) = a2) => ?_)
            · skip
              refine Pt.h_fork (fun (f6 : (1 : Int) = a1) => ?_) (fun (f6 : ¬ (1 : Int) = a1) => ?_)
              · skip
                exact Pt.h_done
              · skip
                refine Pt.h_fork (fun (f7 : (2 : Int) = a1) => ?_) (fun (f7 : ¬ (2 : Int) = a1) => ?_)
                · skip
                  exact Pt.h_done
                · skip
                  refine Pt.h_yes (show (3 : Int) = a1 from (n16o1 a1 l0 u0 f0 f1 f4 f6 f7)) ?_
                  exact Pt.h_done
            · skip
              refine Pt.h_fork (fun (f6 : (1 : Int) = a1) => ?_) (fun (f6 : ¬ (1 : Int) = a1) => ?_)
              · skip
                refine Pt.h_fork (fun (f7 : (4 : Int) = a2) => ?_) (fun (f7 : ¬ (4 : Int) = a2) => ?_)
                · skip
                  exact Pt.h_done
                · skip
                  refine Pt.h_yes (show (3 : Int) = a2 from (n16o2 a2 l1 u1 f2 f3 f5 f7)) ?_
                  exact Pt.h_done
              · skip
                refine Pt.h_fork (fun (f7 : (3 : Int) = a2) => ?_) (fun (f7 : ¬ (3 : Int) = a2) => ?_)
                · skip
                  refine Pt.h_fork (fun (f8 : (2 : Int) = a1) => ?_) (fun (f8 : ¬ (2 : Int) = a1) => ?_)
                  · skip
                    exact Pt.h_done
                  · skip
                    refine Pt.h_yes (show (3 : Int) = a1 from (n16o1 a1 l0 u0 f0 f1 f4 f6 f8)) ?_
                    exact Pt.h_done
                · skip
                  refine Pt.h_fork (fun (f8 : (2 : Int) = a1) => ?_) (fun (f8 : ¬ (2 : Int) = a1) => ?_)
                  · skip
                    refine Pt.h_yes (show (4 : Int) = a2 from (n16o3 a2 l1 u1 f2 f3 f5 f7)) ?_
                    exact Pt.h_done
                  · skip
                    refine Pt.h_yes (show (4 : Int) = a2 from (n16o3 a2 l1 u1 f2 f3 f5 f7)) ?_
                    refine Pt.h_yes (show (3 : Int) = a1 from (n16o1 a1 l0 u0 f0 f1 f4 f6 f8)) ?_
                    exact Pt.h_done

theorem n16rest : auto n16T9 [(-9223372036854775808, 9223372036854775807), (-9223372036854775808, 9223372036854775807)] = n16R7 := by kernel_rfl
theorem n16all (a1 a2 : Int) (l0 : (-9223372036854775808 : Int) ≤ a1) (u0 : a1 ≤ (9223372036854775807 : Int)) (l1 : (-9223372036854775808 : Int) ≤ a2) (u1 : a2 ≤ (9223372036854775807 : Int))  : n16T9.holds [a1, a2] :=
  holds_auto n16rest (fits_cons l0 u0 (fits_cons l1 u1 fits_nil)) (n16t0 a1 a2 l0 u0 l1 u1 )

def n17T0 : Pt := (.no (.eq (.c 1) (.v 0)) (.fork (.eq (.c 3) (.v 1)) (.no (.eq (.c 2) (.v 0)) (.no (.eq (.c 4) (.v 1)) (.no (.eq (.c 3) (.v 0)) (.no (.eq (.c 2) (.v 1)) (.is (.wr .u8 (.v 0)) (.c 0) .done))))) (.no (.eq (.c 2) (.v 0)) (.fork (.eq (.c 4) (.v 1)) (.no (.eq (.c 3) (.v 0)) (.no (.eq (.c 2) (.v 1)) (.is (.wr .u8 (.v 0)) (.c 0) .done))) (.no (.eq (.c 3) (.v 0)) (.yes (.eq (.c 2) (.v 1)) (.is (.wr .u8 (.v 0)) (.c 0) .done)))))))

def n17T1 : Pt := (.fork (.eq (.c 1) (.v 0)) (.no (.eq (.c 2) (.v 0)) (.no (.eq (.c 4) (.v 1)) (.no (.eq (.c 3) (.v 0)) (.no (.eq (.c 3) (.v 1)) (.is (.wr .u8 (.v 0)) (.c 1) .done))))) (.no (.eq (.c 3) (.v 1)) (.fork (.eq (.c 2) (.v 0)) (.no (.eq (.c 4) (.v 1)) (.no (.eq (.c 3) (.v 0)) (.is (.wr .u8 (.v 0)) (.c 2) .done))) (.no (.eq (.c 4) (.v 1)) (.yes (.eq (.c 3) (.v 0)) (.is (.wr .u8 (.v 0)) (.c 3) .done))))))

def n17T2 : Pt := (.fork (.eq (.c 3) (.v 1)) (.fork (.eq (.c 2) (.v 0)) (.no (.eq (.c 4) (.v 1)) (.no (.eq (.c 3) (.v 0)) (.is (.wr .u8 (.v 0)) (.c 2) .done))) (.no (.eq (.c 4) (.v 1)) (.yes (.eq (.c 3) (.v 0)) (.is (.wr .u8 (.v 0)) (.c 3) .done)))) (.fork (.eq (.c 2) (.v 0)) (.yes (.eq (.c 4) (.v 1)) (.no (.eq (.c 3) (.v 0)) (.is (.wr .u8 (.v 0)) (.c 2) .done))) (.yes (.eq (.c 4) (.v 1)) (.yes (.eq (.c 3) (.v 0)) (.is (.wr .u8 (.v 0)) (.c 3) .done)))))

def n17T3 : Pt := (.fork (.eq (.c 1) (.v 0)) (.no (.eq (.c 2) (.v 0)) (.fork (.eq (.c 4) (.v 1)) (.no (.eq (.c 3) (.v 0)) (.no (.eq (.c 3) (.v 1)) (.is (.wr .u8 (.v 0)) (.c 1) .done))) (.no (.eq (.c 3) (.v 0)) (.yes (.eq (.c 3) (.v 1)) (.is (.wr .u8 (.v 0)) (.c 1) .done))))) n17T2)

def n17T4 : Pt := (.fork (.eq (.c 2) (.v 1)) n17T1 n17T3)

def n17T5 : Pt := (.fork (.eq (.c 0) (.v 0)) n17T0 n17T4)

def n17T6 : Pt := (.fork (.lt (.c 4) (.v 1)) .done n17T5)

def n17T7 : Pt := (.fork (.lt (.v 1) (.c 2)) .done n17T6)

def n17T8 : Pt := (.fork (.lt (.c 3) (.v 0)) .done n17T7)

def n17T9 : Pt := (.fork (.lt (.v 0) (.c 0)) .done n17T8)

def n17R0 : Pt := (.fork (.eq (.c 3) (.v 1)) (.fork (.eq (.c 2) (.v 0)) .done (.yes (.eq (.c 3) (.v 0)) .done)) (.fork (.eq (.c 2) (.v 0)) (.yes (.eq (.c 4) (.v 1)) .done) (.yes (.eq (.c 4) (.v 1)) (.yes (.eq (.c 3) (.v 0)) .done))))

def n17R1 : Pt := (.fork (.eq (.c 1) (.v 0)) (.fork (.eq (.c 4) (.v 1)) .done (.yes (.eq (.c 3) (.v 1)) .done)) n17R0)

def n17R2 : Pt := (.fork (.eq (.c 2) (.v 1)) (.fork (.eq (.c 1) (.v 0)) .done (.fork (.eq (.c 2) (.v 0)) .done (.yes (.eq (.c 3) (.v 0)) .done))) n17R1)

def n17R3 : Pt := (.fork (.eq (.c 0) (.v 0)) (.fork (.eq (.c 3) (.v 1)) .done (.fork (.eq (.c 4) (.v 1)) .done (.yes (.eq (.c 2) (.v 1)) .done))) n17R2)

def n17R4 : Pt := (.fork (.lt (.c 4) (.v 1)) .done n17R3)

def n17R5 : Pt := (.fork (.lt (.v 1) (.c 2)) .done n17R4)

def n17R6 : Pt := (.fork (.lt (.c 3) (.v 0)) .done n17R5)

def n17R7 : Pt := (.fork (.lt (.v 0) (.c 0)) .done n17R6)

theorem n17o0 (a2 : Int) (h0 : (-9223372036854775808 : Int) ≤ a2) (h1 : a2 ≤ (9223372036854775807 : Int)) (h2 : ¬ a2 < (2 : Int)) (h3 : ¬ (4 : Int) < a2) (h4 : ¬ (3 : Int) = a2) (h5 : ¬ (4 : Int) = a2) : (2 : Int) = a2 := by omega

theorem n17o1 (a1 : Int) (h0 : (-9223372036854775808 : Int) ≤ a1) (h1 : a1 ≤ (9223372036854775807 : Int)) (h2 : ¬ a1 < (0 : Int)) (h3 : ¬ (3 : Int) < a1) (h4 : ¬ (0 : Int) = a1) (h5 : ¬ (1 : Int) = a1) (h6 : ¬ (2 : Int) = a1) : (3 : Int) = a1 := by omega

theorem n17o2 (a2 : Int) (h0 : (-9223372036854775808 : Int) ≤ a2) (h1 : a2 ≤ (9223372036854775807 : Int)) (h2 : ¬ a2 < (2 : Int)) (h3 : ¬ (4 : Int) < a2) (h4 : ¬ (2 : Int) = a2) (h5 : ¬ (4 : Int) = a2) : (3 : Int) = a2 := by omega

theorem n17o3 (a2 : Int) (h0 : (-9223372036854775808 : Int) ≤ a2) (h1 : a2 ≤ (9223372036854775807 : Int)) (h2 : ¬ a2 < (2 : Int)) (h3 : ¬ (4 : Int) < a2) (h4 : ¬ (2 : Int) = a2) (h5 : ¬ (3 : Int) = a2) : (4 : Int) = a2 := by omega

theorem n17t0 (a1 a2 : Int) (l0 : (-9223372036854775808 : Int) ≤ a1) (u0 : a1 ≤ (9223372036854775807 : Int)) (l1 : (-9223372036854775808 : Int) ≤ a2) (u1 : a2 ≤ (9223372036854775807 : Int)) : n17R7.holds [a1, a2] := by
  refine Pt.h_fork (fun (f0 : a1 < (0 : Int)) => ?_) (fun (f0 : ¬ a1 < (0 : Int)) => ?_)
  · skip
    exact Pt.h_done
  · skip
    refine Pt.h_fork (fun (f1 : (3 : Int) < a1) => ?_) (fun (f1 : ¬ (3 : Int) < a1) => ?_)
    · skip
      exact Pt.h_done
    · skip
      refine Pt.h_fork (fun (f2 : a2 < (2 : Int)) => ?_) (fun (f2 : ¬ a2 < (2 : Int)) => ?_)
      · skip
        exact Pt.h_done
      · skip
        refine Pt.h_fork (fun (f3 : (4 : Int) < a2) => ?_) (fun (f3 : ¬ (4 : Int) < a2) => ?_)
        · skip
          exact Pt.h_done
        · skip
          refine Pt.h_fork (fun (f4 : (0 : Int) = a1) => ?_) (fun (f4 : ¬ (0 : Int) = a1) => ?_)
          · skip
            refine Pt.h_fork (fun (f5 : (3 : Int) = a2) => ?_) (fun (f5 : ¬ (3 : Int) = a2) => ?_)
            · skip
              exact Pt.h_done
            · skip
              refine Pt.h_fork (fun (f6 : (4 : Int) = a2) => ?_) (fun (f6 : ¬ (4 : Int) = a2) => ?_)
              · skip
                exact Pt.h_done
              · skip
                refine Pt.h_yes (show (2 : Int) = a2 from (n17o0 a2 l1 u1 f2 f3 f5 f6)) ?_
                exact Pt.h_done
          · skip
            refine Pt.h_fork (fun (f5 : (2 : Int) = a2) => ?_) (fun (f5 : ¬ (2 : Int) = a2) => ?_)
            · skip
              refine Pt.h_fork (fun (f6 : (1 : Int) = a1) => ?_) (fun (f6 : ¬ (1 : Int) = a1) => ?_)
              · skip
                exact Pt.h_done
              · skip
                refine Pt.h_fork (fun (f7 : (2 : Int) = a1) => ?_) (fun (f7 : ¬ (2 : Int) = a1) => ?_)
                · skip
                  exact Pt.h_done
                · skip
                  refine Pt.h_yes (show (3 : Int) = a1 from (n17o1 a1 l0 u0 f0 f1 f4 f6 f7)) ?_
                  exact Pt.h_done
            · skip
              refine Pt.h_fork (fun (f6 : (1 : Int) = a1) => ?_) (fun (f6 : ¬ (1 : Int) = a1) => ?_)
              · skip
                refine Pt.h_fork (fun (f7 : (4 : Int) = a2) => ?_) (fun (f7 : ¬ (4 : Int) = a2) => ?_)
                · skip
                  exact Pt.h_done
                · skip
                  refine Pt.h_yes (show (3 : Int) = a2 from (n17o2 a2 l1 u1 f2 f3 f5 f7)) ?_
                  exact Pt.h_done
              · skip
                refine Pt.h_fork (fun (f7 : (3 : Int) = a2) => ?_) (fun (f7 : ¬ (3 : Int) = a2) => ?_)
                · skip
                  refine Pt.h_fork (fun (f8 : (2 : Int) = a1) => ?_) (fun (f8 : ¬ (2 : Int) = a1) => ?_)
                  · skip
                    exact Pt.h_done
                  · skip
                    refine Pt.h_yes (show (3 : Int) = a1 from (n17o1 a1 l0 u0 f0 f1 f4 f6 f8)) ?_
                    exact Pt.h_done
                · skip
                  refine Pt.h_fork (fun (f8 : (2 : Int) = a1) => ?_) (fun (f8 : ¬ (2 : Int) = a1) => ?_)
                  · skip
                    refine Pt.h_yes (show (4 : Int) = a2 from (n17o3 a2 l1 u1 f2 f3 f5 f7)) ?_
                    exact Pt.h_done
                  · skip
                    refine Pt.h_yes (show (4 : Int) = a2 from (n17o3 a2 l1 u1 f2 f3 f5 f7)) ?_
                    refine Pt.h_yes (show (3 : Int) = a1 from (n17o1 a1 l0 u0 f0 f1 f4 f6 f8)) ?_
                    exact Pt.h_done

theorem n17rest : auto n17T9 [(-9223372036854775808, 9223372036854775807), (-9223372036854775808, 9223372036854775807)] = n17R7 := by kernel_rfl
theorem n17all (a1 a2 : Int) (l0 : (-9223372036854775808 : Int) ≤ a1) (u0 : a1 ≤ (9223372036854775807 : Int)) (l1 : (-9223372036854775808 : Int) ≤ a2) (u1 : a2 ≤ (9223372036854775807 : Int))  : n17T9.holds [a1, a2] :=
  holds_auto n17rest (fits_cons l0 u0 (fits_cons l1 u1 fits_nil)) (n17t0 a1 a2 l0 u0 l1 u1 )

def n18T0 : Pt := (.no (.eq (.c 1) (.v 0)) (.fork (.eq (.c 3) (.v 1)) (.no (.eq (.c 2) (.v 0)) (.no (.eq (.c 4) (.v 1)) (.no (.eq (.c 3) (.v 0)) (.no (.eq (.c 2) (.v 1)) (.is (.wr .u8 (.v 0)) (.c 0) .done))))) (.no (.eq (.c 2) (.v 0)) (.fork (.eq (.c 4) (.v 1)) (.no (.eq (.c 3) (.v 0)) (.no (.eq (.c 2) (.v 1)) (.is (.wr .u8 (.v 0)) (.c 0) .done))) (.no (.eq (.c 3) (.v 0)) (.yes (.eq (.c 2) (.v 1)) (.is (.wr .u8 (.v 0)) (.c 0) .done)))))))

def n18T1 : Pt := (.fork (.eq (.c 1) (.v 0)) (.no (.eq (.c 2) (.v 0)) (.no (.eq (.c 4) (.v 1)) (.no (.eq (.c 3) (.v 0)) (.no (.eq (.c 3) (.v 1)) (.is (.wr .u8 (.v 0)) (.c 1) .done))))) (.no (.eq (.c 3) (.v 1)) (.fork (.eq (.c 2) (.v 0)) (.no (.eq (.c 4) (.v 1)) (.no (.eq (.c 3) (.v 0)) (.is (.wr .u8 (.v 0)) (.c 2) .done))) (.no (.eq (.c 4) (.v 1)) (.yes (.eq (.c 3) (.v 0)) (.is (.wr .u8 (.v 0)) (.c 3) .done))))))

def n18T2 : Pt := (.fork (.eq (.c 3) (.v 1)) (.fork (.eq (.c 2) (.v 0)) (.no (.eq (.c 4) (.v 1)) (.no (.eq (.c 3) (.v 0)) (.is (.wr .u8 (.v 0)) (.c 2) .done))) (.no (.eq (.c 4) (.v 1)) (.yes (.eq (.c 3) (.v 0)) (.is (.wr .u8 (.v 0)) (.c 3) .done)))) (.fork (.eq (.c 2) (.v 0)) (.yes (.eq (.c 4) (.v 1)) (.no (.eq (.c 3) (.v 0)) (.is (.wr .u8 (.v 0)) (.c 2) .done))) (.yes (.eq (.c 4) (.v 1)) (.yes (.eq (.c 3) (.v 0)) (.is (.wr .u8 (.v 0)) (.c 3) .done)))))

def n18T3 : Pt := (.fork (.eq (.c 1) (.v 0)) (.no (.eq (.c 2) (.v 0)) (.fork (.eq (.c 4) (.v 1)) (.no (.eq (.c 3) (.v 0)) (.no (.eq (.c 3) (.v 1)) (.is (.wr .u8 (.v 0)) (.c 1) .done))) (.no (.eq (.c 3) (.v 0)) (.yes (.eq (.c 3) (.v 1)) (.is (.wr .u8 (.v 0)) (.c 1) .done))))) n18T2)

def n18T4 : Pt := (.fork (.eq (.c 2) (.v 1)) n18T1 n18T3)

def n18T5 : Pt := (.fork (.eq (.c 0) (.v 0)) n18T0 n18T4)

def n18T6 : Pt := (.fork (.lt (.c 4) (.v 1)) .done n18T5)

def n18T7 : Pt := (.fork (.lt (.v 1) (.c 2)) .done n18T6)

def n18T8 : Pt := (.fork (.lt (.c 3) (.v 0)) .done n18T7)

def n18T9 : Pt := (.fork (.lt (.v 0) (.c 0)) .done n18T8)

def n18R0 : Pt := (.fork (.eq (.c 3) (.v 1)) (.fork (.eq (.c 2) (.v 0)) .done (.yes (.eq (.c 3) (.v 0)) .done)) (.fork (.eq (.c 2) (.v 0)) (.yes (.eq (.c 4) (.v 1)) .done) (.yes (.eq (.c 4) (.v 1)) (.yes (.eq (.c 3) (.v 0)) .done))))

def n18R1 : Pt := (.fork (.eq (.c 1) (.v 0)) (.fork (.eq (.c 4) (.v 1)) .done (.yes (.eq (.c 3) (.v 1)) .done)) n18R0)

def n18R2 : Pt := (.fork (.eq (.c 2) (.v 1)) (.fork (.eq (.c 1) (.v 0)) .done (.fork (.eq (.c 2) (.v 0)) .done (.yes (.eq (.c 3) (.v 0)) .done))) n18R1)

def n18R3 : Pt := (.fork (.eq (.c 0) (.v 0)) (.fork (.eq (.c 3) (.v 1)) .done (.fork (.eq (.c 4) (.v 1)) .done (.yes (.eq (.c 2) (.v 1)) .done))) n18R2)

def n18R4 : Pt := (.fork (.lt (.c 4) (.v 1)) .done n18R3)

def n18R5 : Pt := (.fork (.lt (.v 1) (.c 2)) .done n18R4)

def n18R6 : Pt := (.fork (.lt (.c 3) (.v 0)) .done n18R5)

def n18R7 : Pt := (.fork (.lt (.v 0) (.c 0)) .done n18R6)

theorem n18o0 (a2 : Int) (h0 : (-9223372036854775808 : Int) ≤ a2) (h1 : a2 ≤ (9223372036854775807 : Int)) (h2 : ¬ a2 < (2 : Int)) (h3 : ¬ (4 : Int) < a2) (h4 : ¬ (3 : Int) = a2) (h5 : ¬ (4 : Int) = a2) : (2 : Int) = a2 := by omega

theorem n18o1 (a1 : Int) (h0 : (-9223372036854775808 : Int) ≤ a1) (h1 : a1 ≤ (9223372036854775807 : Int)) (h2 : ¬ a1 < (0 : Int)) (h3 : ¬ (3 : Int) < a1) (h4 : ¬ (0 : Int) = a1) (h5 : ¬ (1 : Int) = a1) (h6 : ¬ (2 : Int) = a1) : (3 : Int) = a1 := by omega

theorem n18o2 (a2 : Int) (h0 : (-9223372036854775808 : Int) ≤ a2) (h1 : a2 ≤ (9223372036854775807 : Int)) (h2 : ¬ a2 < (2 : Int)) (h3 : ¬ (4 : Int) < a2) (h4 : ¬ (2 : Int) = a2) (h5 : ¬ (4 : Int) = a2) : (3 : Int) = a2 := by omega

theorem n18o3 (a2 : Int) (h0 : (-9223372036854775808 : Int) ≤ a2) (h1 : a2 ≤ (9223372036854775807 : Int)) (h2 : ¬ a2 < (2 : Int)) (h3 : ¬ (4 : Int) < a2) (h4 : ¬ (2 : Int) = a2) (h5 : ¬ (3 : Int) = a2) : (4 : Int) = a2 := by omega

theorem n18t0 (a1 a2 : Int) (l0 : (-9223372036854775808 : Int) ≤ a1) (u0 : a1 ≤ (9223372036854775807 : Int)) (l1 : (-9223372036854775808 : Int) ≤ a2) (u1 : a2 ≤ (9223372036854775807 : Int)) : n18R7.holds [a1, a2] := by
  refine Pt.h_fork (fun (f0 : a1 < (0 : Int)) => ?_) (fun (f0 : ¬ a1 < (0 : Int)) => ?_)
  · skip
    exact Pt.h_done
  · skip
    refine Pt.h_fork (fun (f1 : (3 : Int) < a1) => ?_) (fun (f1 : ¬ (3 : Int) < a1) => ?_)
    · skip
      exact Pt.h_done
    · skip
      refine Pt.h_fork (fun (f2 : a2 < (2 : Int)) => ?_) (fun (f2 : ¬ a2 < (2 : Int)) => ?_)
      · skip
        exact Pt.h_done
      · skip
        refine Pt.h_fork (fun (f3 : (4 : Int) < a2) => ?_) (fun (f3 : ¬ (4 : Int) < a2) => ?_)
        · skip
          exact Pt.h_done
        · skip
          refine Pt.h_fork (fun (f4 : (0 : Int) = a1) => ?_) (fun (f4 : ¬ (0 : Int) = a1) => ?_)
          · skip
            refine Pt.h_fork (fun (f5 : (3 : Int) = a2) => ?_) (fun (f5 : ¬ (3 : Int) = a2) => ?_)
            · skip
              exact Pt.h_done
            · skip
              refine Pt.h_fork (fun (f6 : (4 : Int) = a2) => ?_) (fun (f6 : ¬ (4 : Int) = a2) => ?_)
              · skip
                exact Pt.h_done
              · skip
                refine Pt.h_yes (show (2 : Int) = a2 from (n18o0 a2 l1 u1 f2 f3 f5 f6)) ?_
                exact Pt.h_done
          · skip
            refine Pt.h_fork (fun (f5 : (2 : Int) = a2) => ?_) (fun (f5 : ¬ (2 : Int) = a2) => ?_)
            · skip
              refine Pt.h_fork (fun (f6 : (1 : Int) = a1) => ?_) (fun (f6 : ¬ (1 : Int) = a1) => ?_)
              · skip
                exact Pt.h_done
              · skip
                refine Pt.h_fork (fun (f7 : (2 : Int) = a1) => ?_) (fun (f7 : ¬ (2 : Int) = a1) => ?_)
                · skip
                  exact Pt.h_done
                · skip
                  refine Pt.h_yes (show (3 : Int) = a1 from (n18o1 a1 l0 u0 f0 f1 f4 f6 f7)) ?_
                  exact Pt.h_done
            · skip
              refine Pt.h_fork (fun (f6 : (1 : Int) = a1) => ?_) (fun (f6 : ¬ (1 : Int) = a1) => ?_)
              · skip
                refine Pt.h_fork (fun (f7 : (4 : Int) = a2) => ?_) (fun (f7 : ¬ (4 : Int) = a2) => ?_)
                · skip
                  exact Pt.h_done
                · skip
                  refine Pt.h_yes (show (3 : Int) = a2 from (n18o2 a2 l1 u1 f2 f3 f5 f7)) ?_
                  exact Pt.h_done
              · skip
                refine Pt.h_fork (fun (f7 : (3 : Int) = a2) => ?_) (fun (f7 : ¬ (3 : Int) = a2) => ?_)
                · skip
                  refine Pt.h_fork (fun (f8 : (2 : Int) = a1) => ?_) (fun (f8 : ¬ (2 : Int) = a1) => ?_)
                  · skip
                    exact Pt.h_done
                  · skip
                    refine Pt.h_yes (show (3 : Int) = a1 from (n18o1 a1 l0 u0 f0 f1 f4 f6 f8)) ?_
                    exact Pt.h_done
                · skip
                  refine Pt.h_fork (fun (f8 : (2 : Int) = a1) => ?_) (fun (f8 : ¬ (2 : Int) = a1) => ?_)
                  · skip
                    refine Pt.h_yes (show (4 : Int) = a2 from (n18o3 a2 l1 u1 f2 f3 f5 f7)) ?_
                    exact Pt.h_done
                  · skip
                    refine Pt.h_yes (show (4 : Int) = a2 from (n18o3 a2 l1 u1 f2 f3 f5 f7)) ?_
                    refine Pt.h_yes (show (3 : Int) = a1 from (n18o1 a1 l0 u0 f0 f1 f4 f6 f8)) ?_
                    exact Pt.h_done

theorem n18rest : auto n18T9 [(-9223372036854775808, 9223372036854775807), (-9223372036854775808, 9223372036854775807)] = n18R7 := by kernel_rfl
theorem n18all (a1 a2 : Int) (l0 : (-9223372036854775808 : Int) ≤ a1) (u0 : a1 ≤ (9223372036854775807 : Int)) (l1 : (-9223372036854775808 : Int) ≤ a2) (u1 : a2 ≤ (9223372036854775807 : Int))  : n18T9.holds [a1, a2] :=
  holds_auto n18rest (fits_cons l0 u0 (fits_cons l1 u1 fits_nil)) (n18t0 a1 a2 l0 u0 l1 u1 )

def n19T0 : Pt := (.no (.eq (.c 1) (.v 0)) (.fork (.eq (.c 3) (.v 1)) (.no (.eq (.c 2) (.v 0)) (.no (.eq (.c 4) (.v 1)) (.no (.eq (.c 3) (.v 0)) (.no (.eq (.c 2) (.v 1)) (.is (.wr .u8 (.v 0)) (.c 0) .done))))) (.no (.eq (.c 2) (.v 0)) (.fork (.eq (.c 4) (.v 1)) (.no (.eq (.c 3) (.v 0)) (.no (.eq (.c 2) (.v 1)) (.is (.wr .u8 (.v 0)) (.c 0) .done))) (.no (.eq (.c 3) (.v 0)) (.yes (.eq (.c 2) (.v 1)) (.is (.wr .u8 (.v 0)) (.c 0) .done)))))))

def n19T1 : Pt := (.fork (.eq (.c 1) (.v 0)) (.no (.eq (.c 2) (.v 0)) (.no (.eq (.c 4) (.v 1)) (.no (.eq (.c 3) (.v 0)) (.no (.eq (.c 3) (.v 1)) (.is (.wr .u8 (.v 0)) (.c 1) .done))))) (.no (.eq (.c 3) (.v 1)) (.fork (.eq (.c 2) (.v 0)) (.no (.eq (.c 4) (.v 1)) (.no (.eq (.c 3) (.v 0)) (.is (.wr .u8 (.v 0)) (.c 2) .done))) (.no (.eq (.c 4) (.v 1)) (.yes (.eq (.c 3) (.v 0)) (.is (.wr .u8 (.v 0)) (.c 3) .done))))))

def n19T2 : Pt := (.fork (.eq (.c 3) (.v 1)) (.fork (.eq (.c 2) (.v 0)) (.no (.eq (.c 4) (.v 1)) (.no (.eq (.c 3) (.v 0)) (.is (.wr .u8 (.v 0)) (.c 2) .done))) (.no (.eq (.c 4) (.v 1)) (.yes (.eq (.c 3) (.v 0)) (.is (.wr .u8 (.v 0)) (.c 3) .done)))) (.fork (.eq (.c 2) (.v 0)) (.yes (.eq (.c 4) (.v 1)) (.no (.eq (.c 3) (.v 0)) (.is (.wr .u8 (.v 0)) (.c 2) .done))) (.yes (.eq (.c 4) (.v 1)) (.yes (.eq (.c 3) (.v 0)) (.is (.wr .u8 (.v 0)) (.c 3) .done)))))

def n19T3 : Pt := (.fork (.eq (.c 1) (.v 0)) (.no (.eq (.c 2) (.v 0)) (.fork (.eq (.c 4) (.v 1)) (.no (.eq (.c 3) (.v 0)) (.no (.eq (.c 3) (.v 1)) (.is (.wr .u8 (.v 0)) (.c 1) .done))) (.no (.eq (.c 3) (.v 0)) (.yes (.eq (.c 3) (.v 1)) (.is (.wr .u8 (.v 0)) (.c 1) .done))))) n19T2)

def n19T4 : Pt := (.fork (.eq (.c 2) (.v 1)) n19T1 n19T3)

def n19T5 : Pt := (.fork (.eq (.c 0) (.v 0)) n19T0 n19T4)

def n19T6 : Pt := (.fork (.lt (.c 4) (.v 1)) .done n19T5)

def n19T7 : Pt := (.fork (.lt (.v 1) (.c 2)) .done n19T6)

def n19T8 : Pt := (.fork (.lt (.c 3) (.v 0)) .done n19T7)

def n19T9 : Pt := (.fork (.lt (.v 0) (.c 0)) .done n19T8)

def n19R0 : Pt := (.fork (.eq (.c 3) (.v 1)) (.fork (.eq (.c 2) (.v 0)) .done (.yes (.eq (.c 3) (.v 0)) .done)) (.fork (.eq (.c 2) (.v 0)) (.yes (.eq (.c 4) (.v 1)) .done) (.yes (.eq (.c 4) (.v 1)) (.yes (.eq (.c 3) (.v 0)) .done))))

def n19R1 : Pt := (.fork (.eq (.c 1) (.v 0)) (.fork (.eq (.c 4) (.v 1)) .done (.yes (.eq (.c 3) (.v 1)) .done)) n19R0)

def n19R2 : Pt := (.fork (.eq (.c 2) (.v 1)) (.fork (.eq (.c 1) (.v 0)) .done (.fork (.eq (.c 2) (.v 0)) .done (.yes (.eq (.c 3) (.v 0)) .done))) n19R1)

def n19R3 : Pt := (.fork (.eq (.c 0) (.v 0)) (.fork (.eq (.c 3) (.v 1)) .done (.fork (.eq (.c 4) (.v 1)) .done (.yes (.eq (.c 2) (.v 1)) .done))) n19R2)

def n19R4 : Pt := (.fork (.lt (.c 4) (.v 1)) .done n19R3)

def n19R5 : Pt := (.fork (.lt (.v 1) (.c 2)) .done n19R4)

def n19R6 : Pt := (.fork (.lt (.c 3) (.v 0)) .done n19R5)

def n19R7 : Pt := (.fork (.lt (.v 0) (.c 0)) .done n19R6)

theorem n19o0 (a2 : Int) (h0 : (-9223372036854775808 : Int) ≤ a2) (h1 : a2 ≤ (9223372036854775807 : Int)) (h2 : ¬ a2 < (2 : Int)) (h3 : ¬ (4 : Int) < a2) (h4 : ¬ (3 : Int) = a2) (h5 : ¬ (4 : Int) = a2) : (2 : Int) = a2 := by omega

theorem n19o1 (a1 : Int) (h0 : (-9223372036854775808 : Int) ≤ a1) (h1 : a1 ≤ (9223372036854775807 : Int)) (h2 : ¬ a1 < (0 : Int)) (h3 : ¬ (3 : Int) < a1) (h4 : ¬ (0 : Int) = a1) (h5 : ¬ (1 : Int) = a1) (h6 : ¬ (2 : Int) = a1) : (3 : Int) = a1 := by omega

theorem n19o2 (a2 : Int) (h0 : (-9223372036854775808 : Int) ≤ a2) (h1 : a2 ≤ (9223372036854775807 : Int)) (h2 : ¬ a2 < (2 : Int)) (h3 : ¬ (4 : Int) < a2) (h4 : ¬ (2 : Int) = a2) (h5 : ¬ (4 : Int) = a2) : (3 : Int) = a2 := by omega

theorem n19o3 (a2 : Int) (h0 : (-9223372036854775808 : Int) ≤ a2) (h1 : a2 ≤ (9223372036854775807 : Int)) (h2 : ¬ a2 < (2 : Int)) (h3 : ¬ (4 : Int) < a2) (h4 : ¬ (2 : Int) = a2) (h5 : ¬ (3 : Int) = a2) : (4 : Int) = a2 := by omega

theorem n19t0 (a1 a2 : Int) (l0 : (-9223372036854775808 : Int) ≤ a1) (u0 : a1 ≤ (9223372036854775807 : Int)) (l1 : (-9223372036854775808 : Int) ≤ a2) (u1 : a2 ≤ (9223372036854775807 : Int)) : n19R7.holds [a1, a2] := by
  refine Pt.h_fork (fun (f0 : a1 < (0 : Int)) => ?_) (fun (f0 : ¬ a1 < (0 : Int)) => ?_)
  · skip
    exact Pt.h_done
  · skip
    refine Pt.h_fork (fun (f1 : (3 : Int) < a1) => ?_) (fun (f1 : ¬ (3 : Int) < a1) => ?_)
    · skip
      exact Pt.h_done
    · skip
      refine Pt.h_fork (fun (f2 : a2 < (2 : Int)) => ?_) (fun (f2 : ¬ a2 < (2 : Int)) => ?_)
      · skip
        exact Pt.h_done
      · skip
        refine Pt.h_fork (fun (f3 : (4 : Int) < a2) => ?_) (fun (f3 : ¬ (4 : Int) < a2) => ?_)
        · skip
          exact Pt.h_done
        · skip
          refine Pt.h_fork (fun (f4 : (0 : Int) = a1) => ?_) (fun (f4 : ¬ (0 : Int) = a1) => ?_)
          · skip
            refine Pt.h_fork (fun (f5 : (3 : Int) = a2) => ?_) (fun (f5 : ¬ (3 : Int) = a2) => ?_)
            · skip
              exact Pt.h_done
            · skip
              refine Pt.h_fork (fun (f6 : (4 : Int) = a2) => ?_) (fun (f6 : ¬ (4 : Int) = a2) => ?_)
              · skip
                exact Pt.h_done
              · skip
                refine Pt.h_yes (show (2 : Int) = a2 from (n19o0 a2 l1 u1 f2 f3 f5 f6)) ?_
                exact Pt.h_done
          · skip
            refine Pt.h_fork (fun (f5 : (2 : Int) = a2) => ?_) (fun (f5 : ¬ (2 : Int) = a2) => ?_)
            · skip
              refine Pt.h_fork (fun (f6 : (1 : Int) = a1) => ?_) (fun (f6 : ¬ (1 : Int) = a1) => ?_)
              · skip
                exact Pt.h_done
              · skip
                refine Pt.h_fork (fun (f7 : (2 : Int) = a1) => ?_) (fun (f7 : ¬ (2 : Int) = a1) => ?_)
                · skip
                  exact Pt.h_done
                · skip
                  refine Pt.h_yes (show (3 : Int) = a1 from (n19o1 a1 l0 u0 f0 f1 f4 f6 f7)) ?_
                  exact Pt.h_done
            · skip
              refine Pt.h_fork (fun (f6 : (1 : Int) = a1) => ?_) (fun (f6 : ¬ (1 : Int) = a1) => ?_)
              · skip
                refine Pt.h_fork (fun (f7 : (4 : Int) = a2) => ?_) (fun (f7 : ¬ (4 : Int) = a2) => ?_)
                · skip
                  exact Pt.h_done
                · skip
                  refine Pt.h_yes (show (3 : Int) = a2 from (n19o2 a2 l1 u1 f2 f3 f5 f7)) ?_
                  exact Pt.h_done
              · skip
                refine Pt.h_fork (fun (f7 : (3 : Int) = a2) => ?_) (fun (f7 : ¬ (3 : Int) = a2) => ?_)
                · skip
                  refine Pt.h_fork (fun (f8 : (2 : Int) = a1) => ?_) (fun (f8 : ¬ (2 : Int) = a1) => ?_)
                  · skip
                    exact Pt.h_done
                  · skip
                    refine Pt.h_yes (show (3 : Int) = a1 from (n19o1 a1 l0 u0 f0 f1 f4 f6 f8)) ?_
                    exact Pt.h_done
                · skip
                  refine Pt.h_fork (fun (f8 : (2 : Int) = a1) => ?_) (fun (f8 : ¬ (2 : Int) = a1) => ?_)
                  · skip
                    refine Pt.h_yes (show (4 : Int) = a2 from (n19o3 a2 l1 u1 f2 f3 f5 f7)) ?_
                    exact Pt.h_done
                  · skip
                    refine Pt.h_yes (show (4 : Int) = a2 from (n19o3 a2 l1 u1 f2 f3 f5 f7)) ?_
                    refine Pt.h_yes (show (3 : Int) = a1 from (n19o1 a1 l0 u0 f0 f1 f4 f6 f8)) ?_
                    exact Pt.h_done

theorem n19rest : auto n19T9 [(-9223372036854775808, 9223372036854775807), (-9223372036854775808, 9223372036854775807)] = n19R7 := by kernel_rfl
theorem n19all (a1 a2 : Int) (l0 : (-9223372036854775808 : Int) ≤ a1) (u0 : a1 ≤ (9223372036854775807 : Int)) (l1 : (-9223372036854775808 : Int) ≤ a2) (u1 : a2 ≤ (9223372036854775807 : Int))  : n19T9.holds [a1, a2] :=
  holds_auto n19rest (fits_cons l0 u0 (fits_cons l1 u1 fits_nil)) (n19t0 a1 a2 l0 u0 l1 u1 )

def n20T0 : Pt := (.no (.eq (.c 1) (.v 0)) (.fork (.eq (.c 3) (.v 1)) (.no (.eq (.c 2) (.v 0)) (.no (.eq (.c 4) (.v 1)) (.no (.eq (.c 3) (.v 0)) (.no (.eq (.c 2) (.v 1)) (.is (.wr .u8 (.v 0)) (.c 0) .done))))) (.no (.eq (.c 2) (.v 0)) (.fork (.eq (.c 4) (.v 1)) (.no (.eq (.c 3) (.v 0)) (.no (.eq (.c 2) (.v 1)) (.is (.wr .u8 (.v 0)) (.c 0) .done))) (.no (.eq (.c 3) (.v 0)) (.yes (.eq (.c 2) (.v 1)) (.is (.wr .u8 (.v 0)) (.c 0) .done)))))))

def n20T1 : Pt := (.fork (.eq (.c 1) (.v 0)) (.no (.eq (.c 2) (.v 0)) (.no (.eq (.c 4) (.v 1)) (.no (.eq (.c 3) (.v 0)) (.no (.eq (.c 3) (.v 1)) (.is (.wr .u8 (.v 0)) (.c 1) .done))))) (.no (.eq (.c 3) (.v 1)) (.fork (.eq (.c 2) (.v 0)) (.no (.eq (.c 4) (.v 1)) (.no (.eq (.c 3) (.v 0)) (.is (.wr .u8 (.v 0)) (.c 2) .done))) (.no (.eq (.c 4) (.v 1)) (.yes (.eq (.c 3) (.v 0)) (.is (.wr .u8 (.v 0)) (.c 3) .done))))))

def n20T2 : Pt := (.fork (.eq (.c 3) (.v 1)) (.fork (.eq (.c 2) (.v 0)) (.no (.eq (.c 4) (.v 1)) (.no (.eq (.c 3) (.v 0)) (.is (.wr .u8 (.v 0)) (.c 2) .done))) (.no (.eq (.c 4) (.v 1)) (.yes (.eq (.c 3) (.v 0)) (.is (.wr .u8 (.v 0)) (.c 3) .done)))) (.fork (.eq (.c 2) (.v 0)) (.yes (.eq (.c 4) (.v 1)) (.no (.eq (.c 3) (.v 0)) (.is (.wr .u8 (.v 0)) (.c 2) .done))) (.yes (.eq (.c 4) (.v 1)) (.yes (.eq (.c 3) (.v 0)) (.is (.wr .u8 (.v 0)) (.c 3) .done)))))

def n20T3 : Pt := (.fork (.eq (.c 1) (.v 0)) (.no (.eq (.c 2) (.v 0)) (.fork (.eq (.c 4) (.v 1)) (.no (.eq (.c 3) (.v 0)) (.no (.eq (.c 3) (.v 1)) (.is (.wr .u8 (.v 0)) (.c 1) .done))) (.no (.eq (.c 3) (.v 0)) (.yes (.eq (.c 3) (.v 1)) (.is (.wr .u8 (.v 0)) (.c 1) .done))))) n20T2)

def n20T4 : Pt := (.fork (.eq (.c 2) (.v 1)) n20T1 n20T3)

def n20T5 : Pt := (.fork (.eq (.c 0) (.v 0)) n20T0 n20T4)

def n20T6 : Pt := (.fork (.lt (.c 4) (.v 1)) .done n20T5)

def n20T7 : Pt := (.fork (.lt (.v 1) (.c 2)) .done n20T6)

def n20T8 : Pt := (.fork (.lt (.c 3) (.v 0)) .done n20T7)

def n20T9 : Pt := (.fork (.lt (.v 0) (.c 0)) .done n20T8)

def n20R0 : Pt := (.fork (.eq (.c 3) (.v 1)) (.fork (.eq (.c 2) (.v 0)) .done (.yes (.eq (.c 3) (.v 0)) .done)) (.fork (.eq (.c 2) (.v 0)) (.yes (.eq (.c 4) (.v 1)) .done) (.yes (.eq (.c 4) (.v 1)) (.yes (.eq (.c 3) (.v 0)) .done))))

def n20R1 : Pt := (.fork (.eq (.c 1) (.v 0)) (.fork (.eq (.c 4) (.v 1)) .done (.yes (.eq (.c 3) (.v 1)) .done)) n20R0)

def n20R2 : Pt := (.fork (.eq (.c 2) (.v 1)) (.fork (.eq (.c 1) (.v 0)) .done (.fork (.eq (.c 2) (.v 0)) .done (.yes (.eq (.c 3) (.v 0)) .done))) n20R1)

def n20R3 : Pt := (.fork (.eq (.c 0) (.v 0)) (.fork (.eq (.c 3) (.v 1)) .done (.fork (.eq (.c 4) (.v 1)) .done (.yes (.eq (.c 2) (.v 1)) .done))) n20R2)

def n20R4 : Pt := (.fork (.lt (.c 4) (.v 1)) .done n20R3)

def n20R5 : Pt := (.fork (.lt (.v 1) (.c 2)) .done n20R4)

def n20R6 : Pt := (.fork (.lt (.c 3) (.v 0)) .done n20R5)

def n20R7 : Pt := (.fork (.lt (.v 0) (.c 0)) .done n20R6)

theorem n20o0 (a2 : Int) (h0 : (-9223372036854775808 : Int) ≤ a2) (h1 : a2 ≤ (9223372036854775807 : Int)) (h2 : ¬ a2 < (2 : Int)) (h3 : ¬ (4 : Int) < a2) (h4 : ¬ (3 : Int) = a2) (h5 : ¬ (4 : Int) = a2) : (2 : Int) = a2 := by omega

theorem n20o1 (a1 : Int) (h0 : (-9223372036854775808 : Int) ≤ a1) (h1 : a1 ≤ (9223372036854775807 : Int)) (h2 : ¬ a1 < (0 : Int)) (h3 : ¬ (3 : Int) < a1) (h4 : ¬ (0 : Int) = a1) (h5 : ¬ (1 : Int) = a1) (h6 : ¬ (2 : Int) = a1) : (3 : Int) = a1 := by omega

theorem n20o2 (a2 : Int) (h0 : (-9223372036854775808 : Int) ≤ a2) (h1 : a2 ≤ (9223372036854775807 : Int)) (h2 : ¬ a2 < (2 : Int)) (h3 : ¬ (4 : Int) < a2) (h4 : ¬ (2 : Int) = a2) (h5 : ¬ (4 : Int) = a2) : (3 : Int) = a2 := by omega

theorem n20o3 (a2 : Int) (h0 : (-9223372036854775808 : Int) ≤ a2) (h1 : a2 ≤ (9223372036854775807 : Int)) (h2 : ¬ a2 < (2 : Int)) (h3 : ¬ (4 : Int) < a2) (h4 : ¬ (2 : Int) = a2) (h5 : ¬ (3 : Int) = a2) : (4 : Int) = a2 := by omega

theorem n20t0 (a1 a2 : Int) (l0 : (-9223372036854775808 : Int) ≤ a1) (u0 : a1 ≤ (9223372036854775807 : Int)) (l1 : (-9223372036854775808 : Int) ≤ a2) (u1 : a2 ≤ (9223372036854775807 : Int)) : n20R7.holds [a1, a2] := by
  refine Pt.h_fork (fun (f0 : a1 < (0 : Int)) => ?_) (fun (f0 : ¬ a1 < (0 : Int)) => ?_)
  · skip
    exact Pt.h_done
  · skip
    refine Pt.h_fork (fun (f1 : (3 : Int) < a1) => ?_) (fun (f1 : ¬ (3 : Int) < a1) => ?_)
    · skip
      exact Pt.h_done
    · skip
      refine Pt.h_fork (fun (f2 : a2 < (2 : Int)) => ?_) (fun (f2 : ¬ a2 < (2 : Int)) => ?_)
      · skip
        exact Pt.h_done
      · skip
        refine Pt.h_fork (fun (f3 : (4 : Int) < a2) => ?_) (fun (f3 : ¬ (4 : Int) < a2) => ?_)
        · skip
          exact Pt.h_done
        · skip
          refine Pt.h_fork (fun (f4 : (0 : Int) = a1) => ?_) (fun (f4 : ¬ (0 : Int) = a1) => ?_)
          · skip
            refine Pt.h_fork (fun (f5 : (3 : Int) = a2) => ?_) (fun (f5 : ¬ (3 : Int) = a2) => ?_)
            · skip
              exact Pt.h_done
            · skip
              refine Pt.h_fork (fun (f6 : (4 : Int) = a2) => ?_) (fun (f6 : ¬ (4 : Int) = a2) => ?_)
              · skip
                exact Pt.h_done
              · skip
                refine Pt.h_yes (show (2 : Int) = a2 from (n20o0 a2 l1 u1 f2 f3 f5 f6)) ?_
                exact Pt.h_done
          · skip
            refine Pt.h_fork (fun (f5 : (2 : Int) = a2) => ?_) (fun (f5 : ¬ (2 : Int) = a2) => ?_)
            · skip
              refine Pt.h_fork (fun (f6 : (1 : Int) = a1) => ?_) (fun (f6 : ¬ (1 : Int) = a1) => ?_)
              · skip
                exact Pt.h_done
              · skip
                refine Pt.h_fork (fun (f7 : (2 : Int) = a1) => ?_) (fun (f7 : ¬ (2 : Int) = a1) => ?_)
                · skip
                  exact Pt.h_done
                · skip
                  refine Pt.h_yes (show (3 : Int) = a1 from (n20o1 a1 l0 u0 f0 f1 f4 f6 f7)) ?_
                  exact Pt.h_done
            · skip
              refine Pt.h_fork (fun (f6 : (1 : Int) = a1) => ?_) (fun (f6 : ¬ (1 : Int) = a1) => ?_)
              · skip
                refine Pt.h_fork (fun (f7 : (4 : Int) = a2) => ?_) (fun (f7 : ¬ (4 : Int) = a2) => ?_)
                · skip
                  exact Pt.h_done
                · skip
                  refine Pt.h_yes (show (3 : Int) = a2 from (n20o2 a2 l1 u1 f2 f3 f5 f7)) ?_
                  exact Pt.h_done
              · skip
                refine Pt.h_fork (fun (f7 : (3 : Int) = a2) => ?_) (fun (f7 : ¬ (3 : Int) = a2) => ?_)
                · skip
                  refine Pt.h_fork (fun (f8 : (2 : Int) = a1) => ?_) (fun (f8 : ¬ (2 : Int) = a1) => ?_)
                  · skip
                    exact Pt.h_done
                  · skip
                    refine Pt.h_yes (show (3 : Int) = a1 from (n20o1 a1 l0 u0 f0 f1 f4 f6 f8)) ?_
                    exact Pt.h_done
                · skip
                  refine Pt.h_fork (fun (f8 : (2 : Int) = a1) => ?_) (fun (f8 : ¬ (2 : Int) = a1) => ?_)
                  · skip
                    refine Pt.h_yes (show (4 : Int) = a2 from (n20o3 a2 l1 u1 f2 f3 f5 f7)) ?_
                    exact Pt.h_done
                  · skip
                    refine Pt.h_yes (show (4 : Int) = a2 from (n20o3 a2 l1 u1 f2 f3 f5 f7)) ?_
                    refine Pt.h_yes (show (3 : Int) = a1 from (n20o1 a1 l0 u0 f0 f1 f4 f6 f8)) ?_
                    exact Pt.h_done

theorem n20rest : auto n20T9 [(-9223372036854775808, 9223372036854775807), (-9223372036854775808, 9223372036854775807)] = n20R7 := by kernel_rfl
theorem n20all (a1 a2 : Int) (l0 : (-9223372036854775808 : Int) ≤ a1) (u0 : a1 ≤ (9223372036854775807 : Int)) (l1 : (-9223372036854775808 : Int) ≤ a2) (u1 : a2 ≤ (9223372036854775807 : Int))  : n20T9.holds [a1, a2] :=
  holds_auto n20rest (fits_cons l0 u0 (fits_cons l1 u1 fits_nil)) (n20t0 a1 a2 l0 u0 l1 u1 )

def n21T0 : Pt := (.no (.eq (.c 1) (.v 0)) (.fork (.eq (.c 3) (.v 1)) (.no (.eq (.c 2) (.v 0)) (.no (.eq (.c 4) (.v 1)) (.no (.eq (.c 3) (.v 0)) (.no (.eq (.c 2) (.v 1)) (.is (.wr .u8 (.v 0)) (.c 0) .done))))) (.no (.eq (.c 2) (.v 0)) (.fork (.eq (.c 4) (.v 1)) (.no (.eq (.c 3) (.v 0)) (.no (.eq (.c 2) (.v 1)) (.is (.wr .u8 (.v 0)) (.c 0) .done))) (.no (.eq (.c 3) (.v 0)) (.yes (.eq (.c 2) (.v 1)) (.is (.wr .u8 (.v 0)) (.c 0) .done)))))))

def n21T1 : Pt := (.fork (.eq (.c 1) (.v 0)) (.no (.eq (.c 2) (.v 0)) (.no (.eq (.c 4) (.v 1)) (.no (.eq (.c 3) (.v 0)) (.no (.eq (.c 3) (.v 1)) (.is (.wr .u8 (.v 0)) (.c 1) .done))))) (.no (.eq (.c 3) (.v 1)) (.fork (.eq (.c 2) (.v 0)) (.no (.eq (.c 4) (.v 1)) (.no (.eq (.c 3) (.v 0)) (.is (.wr .u8 (.v 0)) (.c 2) .done))) (.no (.eq (.c 4) (.v 1)) (.yes (.eq (.c 3) (.v 0)) (.is (.wr .u8 (.v 0)) (.c 3) .done))))))

def n21T2 : Pt := (.fork (.eq (.c 3) (.v 1)) (.fork (.eq (.c 2) (.v 0)) (.no (.eq (.c 4) (.v 1)) (.no (.eq (.c 3) (.v 0)) (.is (.wr .u8 (.v 0)) (.c 2) .done))) (.no (.eq (.c 4) (.v 1)) (.yes (.eq (.c 3) (.v 0)) (.is (.wr .u8 (.v 0)) (.c 3) .done)))) (.fork (.eq (.c 2) (.v 0)) (.yes (.eq (.c 4) (.v 1)) (.no (.eq (.c 3) (.v 0)) (.is (.wr .u8 (.v 0)) (.c 2) .done))) (.yes (.eq (.c 4) (.v 1)) (.yes (.eq (.c 3) (.v 0)) (.is (.wr .u8 (.v 0)) (.c 3) .done)))))

def n21T3 : Pt := (.fork (.eq (.c 1) (.v 0)) (.no (.eq (.c 2) (.v 0)) (.fork (.eq (.c 4) (.v 1)) (.no (.eq (.c 3) (.v 0)) (.no (.eq (.c 3) (.v 1)) (.is (.wr .u8 (.v 0)) (.c 1) .done))) (.no (.eq (.c 3) (.v 0)) (.yes (.eq (.c 3) (.v 1)) (.is (.wr .u8 (.v 0)) (.c 1) .done))))) n21T2)

def n21T4 : Pt := (.fork (.eq (.c 2) (.v 1)) n21T1 n21T3)

def n21T5 : Pt := (.fork (.eq (.c 0) (.v 0)) n21T0 n21T4)

def n21T6 : Pt := (.fork (.lt (.c 4) (.v 1)) .done n21T5)

def n21T7 : Pt := (.fork (.lt (.v 1) (.c 2)) .done n21T6)

def n21T8 : Pt := (.fork (.lt (.c 3) (.v 0)) .done n21T7)

def n21T9 : Pt := (.fork (.lt (.v 0) (.c 0)) .done n21T8)

def n21R0 : Pt := (.fork (.eq (.c 3) (.v 1)) (.fork (.eq (.c 2) (.v 0)) .done (.yes (.eq (.c 3) (.v 0)) .done)) (.fork (.eq (.c 2) (.v 0)) (.yes (.eq (.c 4) (.v 1)) .done) (.yes (.eq (.c 4) (.v 1)) (.yes (.eq (.c 3) (.v 0)) .done))))

def n21R1 : Pt := (.fork (.eq (.c 1) (.v 0)) (.fork (.eq (.c 4) (.v 1)) .done (.yes (.eq (.c 3) (.v 1)) .done)) n21R0)

def n21R2 : Pt := (.fork (.eq (.c 2) (.v 1)) (.fork (.eq (.c 1) (.v 0)) .done (.fork (.eq (.c 2) (.v 0)) .done (.yes (.eq (.c 3) (.v 0)) .done))) n21R1)

def n21R3 : Pt := (.fork (.eq (.c 0) (.v 0)) (.fork (.eq (.c 3) (.v 1)) .done (.fork (.eq (.c 4) (.v 1)) .done (.yes (.eq (.c 2) (.v 1)) .done))) n21R2)

def n21R4 : Pt := (.fork (.lt (.c 4) (.v 1)) .done n21R3)

def n21R5 : Pt := (.fork (.lt (.v 1) (.c 2)) .done n21R4)

def n21R6 : Pt := (.fork (.lt (.c 3) (.v 0)) .done n21R5)

def n21R7 : Pt := (.fork (.lt (.v 0) (.c 0)) .done n21R6)

theorem n21o0 (a2 : Int) (h0 : (-9223372036854775808 : Int) ≤ a2) (h1 : a2 ≤ (9223372036854775807 : Int)) (h2 : ¬ a2 < (2 : Int)) (h3 : ¬ (4 : Int) < a2) (h4 : ¬ (3 : Int) = a2) (h5 : ¬ (4 : Int) = a2) : (2 : Int) = a2 := by omega

theorem n21o1 (a1 : Int) (h0 : (-9223372036854775808 : Int) ≤ a1) (h1 : a1 ≤ (9223372036854775807 : Int)) (h2 : ¬ a1 < (0 : Int)) (h3 : ¬ (3 : Int) < a1) (h4 : ¬ (0 : Int) = a1) (h5 : ¬ (1 : Int) = a1) (h6 : ¬ (2 : Int) = a1) : (3 : Int) = a1 := by omega

theorem n21o2 (a2 : Int) (h0 : (-9223372036854775808 : Int) ≤ a2) (h1 : a2 ≤ (9223372036854775807 : Int)) (h2 : ¬ a2 < (2 : Int)) (h3 : ¬ (4 : Int) < a2) (h4 : ¬ (2 : Int) = a2) (h5 : ¬ (4 : Int) = a2) : (3 : Int) = a2 := by omega

theorem n21o3 (a2 : Int) (h0 : (-9223372036854775808 : Int) ≤ a2) (h1 : a2 ≤ (9223372036854775807 : Int)) (h2 : ¬ a2 < (2 : Int)) (h3 : ¬ (4 : Int) < a2) (h4 : ¬ (2 : Int) = a2) (h5 : ¬ (3 : Int) = a2) : (4 : Int) = a2 := by omega

theorem n21t0 (a1 a2 : Int) (l0 : (-9223372036854775808 : Int) ≤ a1) (u0 : a1 ≤ (9223372036854775807 : Int)) (l1 : (-9223372036854775808 : Int) ≤ a2) (u1 : a2 ≤ (9223372036854775807 : Int)) : n21R7.holds [a1, a2] := by
  refine Pt.h_fork (fun (f0 : a1 < (0 : Int)) => ?_) (fun (f0 : ¬ a1 < (0 : Int)) => ?_)
  · skip
    exact Pt.h_done
  · skip
    refine Pt.h_fork (fun (f1 : (3 : Int) < a1) => ?_) (fun (f1 : ¬ (3 : Int) < a1) => ?_)
    · skip
      exact Pt.h_done
    · skip
      refine Pt.h_fork (fun (f2 : a2 < (2 : Int)) => ?_) (fun (f2 : ¬ a2 < (2 : Int)) => ?_)
      · skip
        exact Pt.h_done
      · skip
        refine Pt.h_fork (fun (f3 : (4 : Int) < a2) => ?_) (fun (f3 : ¬ (4 : Int) < a2) => ?_)
        · skip
          exact Pt.h_done
        · skip
          refine Pt.h_fork (fun (f4 : (0 : Int) = a1) => ?_) (fun (f4 : ¬ (0 : Int) = a1) => ?_)
          · skip
            refine Pt.h_fork (fun (f5 : (3 : Int) = a2) => ?_) (fun (f5 : ¬ (3 : Int) = a2) => ?_)
            · skip
              exact Pt.h_done
            · skip
              refine Pt.h_fork (fun (f6 : (4 : Int) = a2) => ?_) (fun (f6 : ¬ (4 : Int) = a2) => ?_)
              · skip
                exact Pt.h_done
              · skip
                refine Pt.h_yes (show (2 : Int) = a2 from (n21o0 a2 l1 u1 f2 f3 f5 f6)) ?_
                exact Pt.h_done
          · skip
            refine Pt.h_fork (fun (f5 : (2 : Int) = a2) => ?_) (fun (f5 : ¬ (2 : Int) = a2) => ?_)
            · skip
              refine Pt.h_fork (fun (f6 : (1 : Int) = a1) => ?_) (fun (f6 : ¬ (1 : Int) = a1) => ?_)
              · skip
                exact Pt.h_done
              · skip
                refine Pt.h_fork (fun (f7 : (2 : Int) = a1) => ?_) (fun (f7 : ¬ (2 : Int) = a1) => ?_)
                · skip
                  exact Pt.h_done
                · skip
                  refine Pt.h_yes (show (3 : Int) = a1 from (n21o1 a1 l0 u0 f0 f1 f4 f6 f7)) ?_
                  exact Pt.h_done
            · skip
              refine Pt.h_fork (fun (f6 : (1 : Int) = a1) => ?_) (fun (f6 : ¬ (1 : Int) = a1) => ?_)
              · skip
                refine Pt.h_fork (fun (f7 : (4 : Int) = a2) => ?_) (fun (f7 : ¬ (4 : Int) = a2) => ?_)
                · skip
                  exact Pt.h_done
                · skip
                  refine Pt.h_yes (show (3 : Int) = a2 from (n21o2 a2 l1 u1 f2 f3 f5 f7)) ?_
                  exact Pt.h_done
              · skip
                refine Pt.h_fork (fun (f7 : (3 : Int) = a2) => ?_) (fun (f7 : ¬ (3 : Int) = a2) => ?_)
                · skip
                  refine Pt.h_fork (fun (f8 : (2 : Int) = a1) => ?_) (fun (f8 : ¬ (2 : Int) = a1) => ?_)
                  · skip
                    exact Pt.h_done
                  · skip
                    refine Pt.h_yes (show (3 : Int) = a1 from (n21o1 a1 l0 u0 f0 f1 f4 f6 f8)) ?_
                    exact Pt.h_done
                · skip
                  refine Pt.h_fork (fun (f8 : (2 : Int) = a1) => ?_) (fun (f8 : ¬ (2 : Int) = a1) => ?_)
                  · skip
                    refine Pt.h_yes (show (4 : Int) = a2 from (n21o3 a2 l1 u1 f2 f3 f5 f7)) ?_
                    exact Pt.h_done
                  · skip
                    refine Pt.h_yes (show (4 : Int) = a2 from (n21o3 a2 l1 u1 f2 f3 f5 f7)) ?_
                    refine Pt.h_yes (show (3 : Int) = a1 from (n21o1 a1 l0 u0 f0 f1 f4 f6 f8)) ?_
                    exact Pt.h_done

theorem n21rest : auto n21T9 [(-9223372036854775808, 9223372036854775807), (-9223372036854775808, 9223372036854775807)] = n21R7 := by kernel_rfl
theorem n21all (a1 a2 : Int) (l0 : (-9223372036854775808 : Int) ≤ a1) (u0 : a1 ≤ (9223372036854775807 : Int)) (l1 : (-9223372036854775808 : Int) ≤ a2) (u1 : a2 ≤ (9223372036854775807 : Int))  : n21T9.holds [a1, a2] :=
  holds_auto n21rest (fits_cons l0 u0 (fits_cons l1 u1 fits_nil)) (n21t0 a1 a2 l0 u0 l1 u1 )

def n22T0 : Pt := (.no (.eq (.c 1) (.v 0)) (.fork (.eq (.c 3) (.v 1)) (.no (.eq (.c 2) (.v 0)) (.no (.eq (.c 4) (.v 1)) (.no (.eq (.c 3) (.v 0)) (.no (.eq (.c 2) (.v 1)) (.is (.wr .u8 (.v 0)) (.c 0) .done))))) (.no (.eq (.c 2) (.v 0)) (.fork (.eq (.c 4) (.v 1)) (.no (.eq (.c 3) (.v 0)) (.no (.eq (.c 2) (.v 1)) (.is (.wr .u8 (.v 0)) (.c 0) .done))) (.no (.eq (.c 3) (.v 0)) (.yes (.eq (.c 2) (.v 1)) (.is (.wr .u8 (.v 0)) (.c 0) .done)))))))

def n22T1 : Pt := (.fork (.eq (.c 1) (.v 0)) (.no (.eq (.c 2) (.v 0)) (.no (.eq (.c 4) (.v 1)) (.no (.eq (.c 3) (.v 0)) (.no (.eq (.c 3) (.v 1)) (.is (.wr .u8 (.v 0)) (.c 1) .done))))) (.no (.eq (.c 3) (.v 1)) (.fork (.eq (.c 2) (.v 0)) (.no (.eq (.c 4) (.v 1)) (.no (.eq (.c 3) (.v 0)) (.is (.wr .u8 (.v 0)) (.c 2) .done))) (.no (.eq (.c 4) (.v 1)) (.yes (.eq (.c 3) (.v 0)) (.is (.wr .u8 (.v 0)) (.c 3) .done))))))

def n22T2 : Pt := (.fork (.eq (.c 3) (.v 1)) (.fork (.eq (.c 2) (.v 0)) (.no (.eq (.c 4) (.v 1)) (.no (.eq (.c 3) (.v 0)) (.is (.wr .u8 (.v 0)) (.c 2) .done))) (.no (.eq (.c 4) (.v 1)) (.yes (.eq (.c 3) (.v 0)) (.is (.wr .u8 (.v 0)) (.c 3) .done)))) (.fork (.eq (.c 2) (.v 0)) (.yes (.eq (.c 4) (.v 1)) (.no (.eq (.c 3) (.v 0)) (.is (.wr .u8 (.v 0)) (.c 2) .done))) (.yes (.eq (.c 4) (.v 1)) (.yes (.eq (.c 3) (.v 0)) (.is (.wr .u8 (.v 0)) (.c 3) .done)))))

def n22T3 : Pt := (.fork (.eq (.c 1) (.v 0)) (.no (.eq (.c 2) (.v 0)) (.fork (.eq (.c 4) (.v 1)) (.no (.eq (.c 3) (.v 0)) (.no (.eq (.c 3) (.v 1)) (.is (.wr .u8 (.v 0)) (.c 1) .done))) (.no (.eq (.c 3) (.v 0)) (.yes (.eq (.c 3) (.v 1)) (.is (.wr .u8 (.v 0)) (.c 1) .done))))) n22T2)

def n22T4 : Pt := (.fork (.eq (.c 2) (.v 1)) n22T1 n22T3)

def n22T5 : Pt := (.fork (.eq (.c 0) (.v 0)) n22T0 n22T4)

def n22T6 : Pt := (.fork (.lt (.c 4) (.v 1)) .done n22T5)

def n22T7 : Pt := (.fork (.lt (.v 1) (.c 2)) .done n22T6)

def n22T8 : Pt := (.fork (.lt (.c 3) (.v 0)) .done n22T7)

def n22T9 : Pt := (.fork (.lt (.v 0) (.c 0)) .done n22T8)

def n22R0 : Pt := (.fork (.eq (.c 3) (.v 1)) (.fork (.eq (.c 2) (.v 0)) .done (.yes (.eq (.c 3) (.v 0)) .done)) (.fork (.eq (.c 2) (.v 0)) (.yes (.eq (.c 4) (.v 1)) .done) (.yes (.eq (.c 4) (.v 1)) (.yes (.eq (.c 3) (.v 0)) .done))))

def n22R1 : Pt := (.fork (.eq (.c 1) (.v 0)) (.fork (.eq (.c 4) (.v 1)) .done (.yes (.eq (.c 3) (.v 1)) .done)) n22R0)

def n22R2 : Pt := (.fork (.eq (.c 2) (.v 1)) (.fork (.eq (.c 1) (.v 0)) .done (.fork (.eq (.c 2) (.v 0)) .done (.yes (.eq (.c 3) (.v 0)) .done))) n22R1)

def n22R3 : Pt := (.fork (.eq (.c 0) (.v 0)) (.fork (.eq (.c 3) (.v 1)) .done (.fork (.eq (.c 4) (.v 1)) .done (.yes (.eq (.c 2) (.v 1)) .done))) n22R2)

def n22R4 : Pt := (.fork (.lt (.c 4) (.v 1)) .done n22R3)

def n22R5 : Pt := (.fork (.lt (.v 1) (.c 2)) .done n22R4)

def n22R6 : Pt := (.fork (.lt (.c 3) (.v 0)) .done n22R5)

def n22R7 : Pt := (.fork (.lt (.v 0) (.c 0)) .done n22R6)

theorem n22o0 (a2 : Int) (h0 : (-9223372036854775808 : Int) ≤ a2) (h1 : a2 ≤ (9223372036854775807 : Int)) (h2 : ¬ a2 < (2 : Int)) (h3 : ¬ (4 : Int) < a2) (h4 : ¬ (3 : Int) = a2) (h5 : ¬ (4 : Int) = a2) : (2 : Int) = a2 := by omega

theorem n22o1 (a1 : Int) (h0 : (-9223372036854775808 : Int) ≤ a1) (h1 : a1 ≤ (9223372036854775807 : Int)) (h2 : ¬ a1 < (0 : Int)) (h3 : ¬ (3 : Int) < a1) (h4 : ¬ (0 : Int) = a1) (h5 : ¬ (1 : Int) = a1) (h6 : ¬ (2 : Int) = a1) : (3 : Int) = a1 := by omega

theorem n22o2 (a2 : Int) (h0 : (-9223372036854775808 : Int) ≤ a2) (h1 : a2 ≤ (9223372036854775807 : Int)) (h2 : ¬ a2 < (2 : Int)) (h3 : ¬ (4 : Int) < a2) (h4 : ¬ (2 : Int) = a2) (h5 : ¬ (4 : Int) = a2) : (3 : Int) = a2 := by omega

theorem n22o3 (a2 : Int) (h0 : (-9223372036854775808 : Int) ≤ a2) (h1 : a2 ≤ (9223372036854775807 : Int)) (h2 : ¬ a2 < (2 : Int)) (h3 : ¬ (4 : Int) < a2) (h4 : ¬ (2 : Int) = a2) (h5 : ¬ (3 : Int) = a2) : (4 : Int) = a2 := by omega

theorem n22t0 (a1 a2 : Int) (l0 : (-9223372036854775808 : Int) ≤ a1) (u0 : a1 ≤ (9223372036854775807 : Int)) (l1 : (-9223372036854775808 : Int) ≤ a2) (u1 : a2 ≤ (9223372036854775807 : Int)) : n22R7.holds [a1, a2] := by
  refine Pt.h_fork (fun (f0 : a1 < (0 : Int)) => ?_) (fun (f0 : ¬ a1 < (0 : Int)) => ?_)
  · skip
    exact Pt.h_done
  · skip
    refine Pt.h_fork (fun (f1 : (3 : Int) < a1) => ?_) (fun (f1 : ¬ (3 : Int) < a1) => ?_)
    · skip
      exact Pt.h_done
    · skip
      refine Pt.h_fork (fun (f2 : a2 < (2 : Int)) => ?_) (fun (f2 : ¬ a2 < (2 : Int)) => ?_)
      · skip
        exact Pt.h_done
      · skip
        refine Pt.h_fork (fun (f3 : (4 : Int) < a2) => ?_) (fun (f3 : ¬ (4 : Int) < a2) => ?_)
        · skip
          exact Pt.h_done
        · skip
          refine Pt.h_fork (fun (f4 : (0 : Int) = a1) => ?_) (fun (f4 : ¬ (0 : Int) = a1) => ?_)
          · skip
            refine Pt.h_fork (fun (f5 : (3 : Int) = a2) => ?_) (fun (f5 : ¬ (3 : Int) = a2) => ?_)
            · skip
              exact Pt.h_done
            · skip
              refine Pt.h_fork (fun (f6 : (4 : Int) = a2) => ?_) (fun (f6 : ¬ (4 : Int) = a2) => ?_)
              · skip
                exact Pt.h_done
              · skip
                refine Pt.h_yes (show (2 : Int) = a2 from (n22o0 a2 l1 u1 f2 f3 f5 f6)) ?_
                exact Pt.h_done
          · skip
            refine Pt.h_fork (fun (f5 : (2 : Int) = a2) => ?_) (fun (f5 : ¬ (2 : Int) = a2) => ?_)
            · skip
              refine Pt.h_fork (fun (f6 : (1 : Int) = a1) => ?_) (fun (f6 : ¬ (1 : Int) = a1) => ?_)
              · skip
                exact Pt.h_done
              · skip
                refine Pt.h_fork (fun (f7 : (2 : Int) = a1) => ?_) (fun (f7 : ¬ (2 : Int) = a1) => ?_)
                · skip
                  exact Pt.h_done
                · skip
                  refine Pt.h_yes (show (3 : Int) = a1 from (n22o1 a1 l0 u0 f0 f1 f4 f6 f7)) ?_
                  exact Pt.h_done
            · skip
              refine Pt.h_fork (fun (f6 : (1 : Int) = a1) => ?_) (fun (f6 : ¬ (1 : Int) = a1) => ?_)
              · skip
                refine Pt.h_fork (fun (f7 : (4 : Int) = a2) => ?_) (fun (f7 : ¬ (4 : Int) = a2) => ?_)
                · skip
                  exact Pt.h_done
                · skip
                  refine Pt.h_yes (show (3 : Int) = a2 from (n22o2 a2 l1 u1 f2 f3 f5 f7)) ?_
                  exact Pt.h_done
              · skip
                refine Pt.h_fork (fun (f7 : (3 : Int) = a2) => ?_) (fun (f7 : ¬ (3 : Int) = a2) => ?_)
                · skip
                  refine Pt.h_fork (fun (f8 : (2 : Int) = a1) => ?_) (fun (f8 : ¬ (2 : Int) = a1) => ?_)
                  · skip
                    exact Pt.h_done
                  · skip
                    refine Pt.h_yes (show (3 : Int) = a1 from (n22o1 a1 l0 u0 f0 f1 f4 f6 f8)) ?_
                    exact Pt.h_done
                · skip
                  refine Pt.h_fork (fun (f8 : (2 : Int) = a1) => ?_) (fun (f8 : ¬ (2 : Int) = a1) => ?_)
                  · skip
                    refine Pt.h_yes (show (4 : Int) = a2 from (n22o3 a2 l1 u1 f2 f3 f5 f7)) ?_
                    exact Pt.h_done
                  · skip
                    refine Pt.h_yes (show (4 : Int) = a2 from (n22o3 a2 l1 u1 f2 f3 f5 f7)) ?_
                    refine Pt.h_yes (show (3 : Int) = a1 from (n22o1 a1 l0 u0 f0 f1 f4 f6 f8)) ?_
                    exact Pt.h_done

theorem n22rest : auto n22T9 [(-9223372036854775808, 9223372036854775807), (-9223372036854775808, 9223372036854775807)] = n22R7 := by kernel_rfl
theorem n22all (a1 a2 : Int) (l0 : (-9223372036854775808 : Int) ≤ a1) (u0 : a1 ≤ (9223372036854775807 : Int)) (l1 : (-9223372036854775808 : Int) ≤ a2) (u1 : a2 ≤ (9223372036854775807 : Int))  : n22T9.holds [a1, a2] :=
  holds_auto n22rest (fits_cons l0 u0 (fits_cons l1 u1 fits_nil)) (n22t0 a1 a2 l0 u0 l1 u1 )

def n23T0 : Pt := (.no (.eq (.c 1) (.v 0)) (.fork (.eq (.c 3) (.v 1)) (.no (.eq (.c 2) (.v 0)) (.no (.eq (.c 4) (.v 1)) (.no (.eq (.c 3) (.v 0)) (.no (.eq (.c 2) (.v 1)) (.is (.wr .u8 (.v 0)) (.c 0) .done))))) (.no (.eq (.c 2) (.v 0)) (.fork (.eq (.c 4) (.v 1)) (.no (.eq (.c 3) (.v 0)) (.no (.eq (.c 2) (.v 1)) (.is (.wr .u8 (.v 0)) (.c 0) .done))) (.no (.eq (.c 3) (.v 0)) (.yes (.eq (.c 2) (.v 1)) (.is (.wr .u8 (.v 0)) (.c 0) .done)))))))

def n23T1 : Pt := (.fork (.eq (.c 1) (.v 0)) (.no (.eq (.c 2) (.v 0)) (.no (.eq (.c 4) (.v 1)) (.no (.eq (.c 3) (.v 0)) (.no (.eq (.c 3) (.v 1)) (.is (.wr .u8 (.v 0)) (.c 1) .done))))) (.no (.eq (.c 3) (.v 1)) (.fork (.eq (.c 2) (.v 0)) (.no (.eq (.c 4) (.v 1)) (.no (.eq (.c 3) (.v 0)) (.is (.wr .u8 (.v 0)) (.c 2) .done))) (.no (.eq (.c 4) (.v 1)) (.yes (.eq (.c 3) (.v 0)) (.is (.wr .u8 (.v 0)) (.c 3) .done))))))

def n23T2 : Pt := (.fork (.eq (.c 3) (.v 1)) (.fork (.eq (.c 2) (.v 0)) (.no (.eq (.c 4) (.v 1)) (.no (.eq (.c 3) (.v 0)) (.is (.wr .u8 (.v 0)) (.c 2) .done))) (.no (.eq (.c 4) (.v 1)) (.yes (.eq (.c 3) (.v 0)) (.is (.wr .u8 (.v 0)) (.c 3) .done)))) (.fork (.eq (.c 2) (.v 0)) (.yes (.eq (.c 4) (.v 1)) (.no (.eq (.c 3) (.v 0)) (.is (.wr .u8 (.v 0)) (.c 2) .done))) (.yes (.eq (.c 4) (.v 1)) (.yes (.eq (.c 3) (.v 0)) (.is (.wr .u8 (.v 0)) (.c 3) .done)))))

def n23T3 : Pt := (.fork (.eq (.c 1) (.v 0)) (.no (.eq (.c 2) (.v 0)) (.fork (.eq (.c 4) (.v 1)) (.no (.eq (.c 3) (.v 0)) (.no (.eq (.c 3) (.v 1)) (.is (.wr .u8 (.v 0)) (.c 1) .done))) (.no (.eq (.c 3) (.v 0)) (.yes (.eq (.c 3) (.v 1)) (.is (.wr .u8 (.v 0)) (.c 1) .done))))) n23T2)

def n23T4 : Pt := (.fork (.eq (.c 2) (.v 1)) n23T1 n23T3)

def n23T5 : Pt := (.fork (.eq (.c 0) (.v 0)) n23T0 n23T4)

def n23T6 : Pt := (.fork (.lt (.c 4) (.v 1)) .done n23T5)

def n23T7 : Pt := (.fork (.lt (.v 1) (.c 2)) .done n23T6)

def n23T8 : Pt := (.fork (.lt (.c 3) (.v 0)) .done n23T7)

def n23T9 : Pt := (.fork (.lt (.v 0) (.c 0)) .done n23T8)

def n23R0 : Pt := (.fork (.eq (.c 3) (.v 1)) (.fork (.eq (.c 2) (.v 0)) .done (.yes (.eq (.c 3) (.v 0)) .done)) (.fork (.eq (.c 2) (.v 0)) (.yes (.eq (.c 4) (.v 1)) .done) (.yes (.eq (.c 4) (.v 1)) (.yes (.eq (.c 3) (.v 0)) .done))))

def n23R1 : Pt := (.fork (.eq (.c 1) (.v 0)) (.fork (.eq (.c 4) (.v 1)) .done (.yes (.eq (.c 3) (.v 1)) .done)) n23R0)

def n23R2 : Pt := (.fork (.eq (.c 2) (.v 1)) (.fork (.eq (.c 1) (.v 0)) .done (.fork (.eq (.c 2) (.v 0)) .done (.yes (.eq (.c 3) (.v 0)) .done))) n23R1)

def n23R3 : Pt := (.fork (.eq (.c 0) (.v 0)) (.fork (.eq (.c 3) (.v 1)) .done (.fork (.eq (.c 4) (.v 1)) .done (.yes (.eq (.c 2) (.v 1)) .done))) n23R2)

def n23R4 : Pt := (.fork (.lt (.c 4) (.v 1)) .done n23R3)

def n23R5 : Pt := (.fork (.lt (.v 1) (.c 2)) .done n23R4)

def n23R6 : Pt := (.fork (.lt (.c 3) (.v 0)) .done n23R5)

def n23R7 : Pt := (.fork (.lt (.v 0) (.c 0)) .done n23R6)

theorem n23o0 (a2 : Int) (h0 : (-9223372036854775808 : Int) ≤ a2) (h1 : a2 ≤ (9223372036854775807 : Int)) (h2 : ¬ a2 < (2 : Int)) (h3 : ¬ (4 : Int) < a2) (h4 : ¬ (3 : Int) = a2) (h5 : ¬ (4 : Int) = a2) : (2 : Int) = a2 := by omega

theorem n23o1 (a1 : Int) (h0 : (-9223372036854775808 : Int) ≤ a1) (h1 : a1 ≤ (9223372036854775807 : Int)) (h2 : ¬ a1 < (0 : Int)) (h3 : ¬ (3 : Int) < a1) (h4 : ¬ (0 : Int) = a1) (h5 : ¬ (1 : Int) = a1) (h6 : ¬ (2 : Int) = a1) : (3 : Int) = a1 := by omega

theorem n23o2 (a2 : Int) (h0 : (-9223372036854775808 : Int) ≤ a2) (h1 : a2 ≤ (9223372036854775807 : Int)) (h2 : ¬ a2 < (2 : Int)) (h3 : ¬ (4 : Int) < a2) (h4 : ¬ (2 : Int) = a2) (h5 : ¬ (4 : Int) = a2) : (3 : Int) = a2 := by omega

theorem n23o3 (a2 : Int) (h0 : (-9223372036854775808 : Int) ≤ a2) (h1 : a2 ≤ (9223372036854775807 : Int)) (h2 : ¬ a2 < (2 : Int)) (h3 : ¬ (4 : Int) < a2) (h4 : ¬ (2 : Int) = a2) (h5 : ¬ (3 : Int) = a2) : (4 : Int) = a2 := by omega

theorem n23t0 (a1 a2 : Int) (l0 : (-9223372036854775808 : Int) ≤ a1) (u0 : a1 ≤ (9223372036854775807 : Int)) (l1 : (-9223372036854775808 : Int) ≤ a2) (u1 : a2 ≤ (9223372036854775807 : Int)) : n23R7.holds [a1, a2] := by
  refine Pt.h_fork (fun (f0 : a1 < (0 : Int)) => ?_) (fun (f0 : ¬ a1 < (0 : Int)) => ?_)
  · skip
    exact Pt.h_done
  · skip
    refine Pt.h_fork (fun (f1 : (3 : Int) < a1) => ?_) (fun (f1 : ¬ (3 : Int) < a1) => ?_)
    · skip
      exact Pt.h_done
    · skip
      refine Pt.h_fork (fun (f2 : a2 < (2 : Int)) => ?_) (fun (f2 : ¬ a2 < (2 : Int)) => ?_)
      · skip
        exact Pt.h_done
      · skip
        refine Pt.h_fork (fun (f3 : (4 : Int) < a2) => ?_) (fun (f3 : ¬ (4 : Int) < a2) => ?_)
        · skip
          exact Pt.h_done
        · skip
          refine Pt.h_fork (fun (f4 : (0 : Int) = a1) => ?_) (fun (f4 : ¬ (0 : Int) = a1) => ?_)
          · skip
            refine Pt.h_fork (fun (f5 : (3 : Int) = a2) => ?_) (fun (f5 : ¬ (3 : Int) = a2) => ?_)
            · skip
              exact Pt.h_done
            · skip
              refine Pt.h_fork (fun (f6 : (4 : Int) = a2) => ?_) (fun (f6 : ¬ (4 : Int) = a2) => ?_)
              · skip
                exact Pt.h_done
              · skip
                refine Pt.h_yes (show (2 : Int) = a2 from (n23o0 a2 l1 u1 f2 f3 f5 f6)) ?_
                exact Pt.h_done
          · skip
            refine Pt.h_fork (fun (f5 : (2 : Int) = a2) => ?_) (fun (f5 : ¬ (2 : Int) = a2) => ?_)
            · skip
              refine Pt.h_fork (fun (f6 : (1 : Int) = a1) => ?_) (fun (f6 : ¬ (1 : Int) = a1) => ?_)
              · skip
                exact Pt.h_done
              · skip
                refine Pt.h_fork (fun (f7 : (2 : Int) = a1) => ?_) (fun (f7 : ¬ (2 : Int) = a1) => ?_)
                · skip
                  exact Pt.h_done
                · skip
                  refine Pt.h_yes (show (3 : Int) = a1 from (n23o1 a1 l0 u0 f0 f1 f4 f6 f7)) ?_
                  exact Pt.h_done
            · skip
              refine Pt.h_fork (fun (f6 : (1 : Int) = a1) => ?_) (fun (f6 : ¬ (1 : Int) = a1) => ?_)
              · skip
                refine Pt.h_fork (fun (f7 : (4 : Int) = a2) => ?_) (fun (f7 : ¬ (4 : Int) = a2) => ?_)
                · skip
                  exact Pt.h_done
                · skip
                  refine Pt.h_yes (show (3 : Int) = a2 from (n23o2 a2 l1 u1 f2 f3 f5 f7)) ?_
                  exact Pt.h_done
              · skip
                refine Pt.h_fork (fun (f7 : (3 : Int) = a2) => ?_) (fun (f7 : ¬ (3 : Int) = a2) => ?_)
                · skip
                  refine Pt.h_fork (fun (f8 : (2 : Int) = a1) => ?_) (fun (f8 : ¬ (2 : Int) = a1) => ?_)
                  · skip
                    exact Pt.h_done
                  · skip
                    refine Pt.h_yes (show (3 : Int) = a1 from (n23o1 a1 l0 u0 f0 f1 f4 f6 f8)) ?_
                    exact Pt.h_done
                · skip
                  refine Pt.h_fork (fun (f8 : (2 : Int) = a1) => ?_) (fun (f8 : ¬ (2 : Int) = a1) => ?_)
                  · skip
                    refine Pt.h_yes (show (4 : Int) = a2 from (n23o3 a2 l1 u1 f2 f3 f5 f7)) ?_
                    exact Pt.h_done
                  · skip
                    refine Pt.h_yes (show (4 : Int) = a2 from (n23o3 a2 l1 u1 f2 f3 f5 f7)) ?_
                    refine Pt.h_yes (show (3 : Int) = a1 from (n23o1 a1 l0 u0 f0 f1 f4 f6 f8)) ?_
                    exact Pt.h_done

theorem n23rest : auto n23T9 [(-9223372036854775808, 9223372036854775807), (-9223372036854775808, 9223372036854775807)] = n23R7 := by kernel_rfl
theorem n23all (a1 a2 : Int) (l0 : (-9223372036854775808 : Int) ≤ a1) (u0 : a1 ≤ (9223372036854775807 : Int)) (l1 : (-9223372036854775808 : Int) ≤ a2) (u1 : a2 ≤ (9223372036854775807 : Int))  : n23T9.holds [a1, a2] :=
  holds_auto n23rest (fits_cons l0 u0 (fits_cons l1 u1 fits_nil)) (n23t0 a1 a2 l0 u0 l1 u1 )

def n24T0 : Pt := (.no (.eq (.c 1) (.v 0)) (.fork (.eq (.c 3) (.v 1)) (.no (.eq (.c 2) (.v 0)) (.no (.eq (.c 4) (.v 1)) (.no (.eq (.c 3) (.v 0)) (.no (.eq (.c 2) (.v 1)) (.is (.wr .u8 (.v 0)) (.c 0) .done))))) (.no (.eq (.c 2) (.v 0)) (.fork (.eq (.c 4) (.v 1)) (.no (.eq (.c 3) (.v 0)) (.no (.eq (.c 2) (.v 1)) (.is (.wr .u8 (.v 0)) (.c 0) .done))) (.no (.eq (.c 3) (.v 0)) (.yes (.eq (.c 2) (.v 1)) (.is (.wr .u8 (.v 0)) (.c 0) .done)))))))

def n24T1 : Pt := (.fork (.eq (.c 1) (.v 0)) (.no (.eq (.c 2) (.v 0)) (.no (.eq (.c 4) (.v 1)) (.no (.eq (.c 3) (.v 0)) (.no (.eq (.c 3) (.v 1)) (.is (.wr .u8 (.v 0)) (.c 1) .done))))) (.no (.eq (.c 3) (.v 1)) (.fork (.eq (.c 2) (.v 0)) (.no (.eq (.c 4) (.v 1)) (.no (.eq (.c 3) (.v 0)) (.is (.wr .u8 (.v 0)) (.c 2) .done))) (.no (.eq (.c 4) (.v 1)) (.yes (.eq (.c 3) (.v 0)) (.is (.wr .u8 (.v 0)) (.c 3) .done))))))

def n24T2 : Pt := (.fork (.eq (.c 3) (.v 1)) (.fork (.eq (.c 2) (.v 0)) (.no (.eq (.c 4) (.v 1)) (.no (.eq (.c 3) (.v 0)) (.is (.wr .u8 (.v 0)) (.c 2) .done))) (.no (.eq (.c 4) (.v 1)) (.yes (.eq (.c 3) (.v 0)) (.is (.wr .u8 (.v 0)) (.c 3) .done)))) (.fork (.eq (.c 2) (.v 0)) (.yes (.eq (.c 4) (.v 1)) (.no (.eq (.c 3) (.v 0)) (.is (.wr .u8 (.v 0)) (.c 2) .done))) (.yes (.eq (.c 4) (.v 1)) (.yes (.eq (.c 3) (.v 0)) (.is (.wr .u8 (.v 0)) (.c 3) .done)))))

def n24T3 : Pt := (.fork (.eq (.c 1) (.v 0)) (.no (.eq (.c 2) (.v 0)) (.fork (.eq (.c 4) (.v 1)) (.no (.eq (.c 3) (.v 0)) (.no (.eq (.c 3) (.v 1)) (.is (.wr .u8 (.v 0)) (.c 1) .done))) (.no (.eq (.c 3) (.v 0)) (.yes (.eq (.c 3) (.v 1)) (.is (.wr .u8 (.v 0)) (.c 1) .done))))) n24T2)

def n24T4 : Pt := (.fork (.eq (.c 2) (.v 1)) n24T1 n24T3)

def n24T5 : Pt := (.fork (.eq (.c 0) (.v 0)) n24T0 n24T4)

def n24T6 : Pt := (.fork (.lt (.c 4) (.v 1)) .done n24T5)

def n24T7 : Pt := (.fork (.lt (.v 1) (.c 2)) .done n24T6)

def n24T8 : Pt := (.fork (.lt (.c 3) (.v 0)) .done n24T7)

def n24T9 : Pt := (.fork (.lt (.v 0) (.c 0)) .done n24T8)

def n24R0 : Pt := (.fork (.eq (.c 3) (.v 1)) (.fork (.eq (.c 2) (.v 0)) .done (.yes (.eq (.c 3) (.v 0)) .done)) (.fork (.eq (.c 2) (.v 0)) (.yes (.eq (.c 4) (.v 1)) .done) (.yes (.eq (.c 4) (.v 1)) (.yes (.eq (.c 3) (.v 0)) .done))))

def n24R1 : Pt := (.fork (.eq (.c 1) (.v 0)) (.fork (.eq (.c 4) (.v 1)) .done (.yes (.eq (.c 3) (.v 1)) .done)) n24R0)

def n24R2 : Pt := (.fork (.eq (.c 2) (.v 1)) (.fork (.eq (.c 1) (.v 0)) .done (.fork (.eq (.c 2) (.v 0)) .done (.yes (.eq (.c 3) (.v 0)) .done))) n24R1)

def n24R3 : Pt := (.fork (.eq (.c 0) (.v 0)) (.fork (.eq (.c 3) (.v 1)) .done (.fork (.eq (.c 4) (.v 1)) .done (.yes (.eq (.c 2) (.v 1)) .done))) n24R2)

def n24R4 : Pt := (.fork (.lt (.c 4) (.v 1)) .done n24R3)

def n24R5 : Pt := (.fork (.lt (.v 1) (.c 2)) .done n24R4)

def n24R6 : Pt := (.fork (.lt (.c 3) (.v 0)) .done n24R5)

def n24R7 : Pt := (.fork (.lt (.v 0) (.c 0)) .done n24R6)

theorem n24o0 (a2 : Int) (h0 : (-9223372036854775808 : Int) ≤ a2) (h1 : a2 ≤ (9223372036854775807 : Int)) (h2 : ¬ a2 < (2 : Int)) (h3 : ¬ (4 : Int) < a2) (h4 : ¬ (3 : Int) = a2) (h5 : ¬ (4 : Int) = a2) : (2 : Int) = a2 := by omega

theorem n24o1 (a1 : Int) (h0 : (-9223372036854775808 : Int) ≤ a1) (h1 : a1 ≤ (9223372036854775807 : Int)) (h2 : ¬ a1 < (0 : Int)) (h3 : ¬ (3 : Int) < a1) (h4 : ¬ (0 : Int) = a1) (h5 : ¬ (1 : Int) = a1) (h6 : ¬ (2 : Int) = a1) : (3 : Int) = a1 := by omega

theorem n24o2 (a2 : Int) (h0 : (-9223372036854775808 : Int) ≤ a2) (h1 : a2 ≤ (9223372036854775807 : Int)) (h2 : ¬ a2 < (2 : Int)) (h3 : ¬ (4 : Int) < a2) (h4 : ¬ (2 : Int) = a2) (h5 : ¬ (4 : Int) = a2) : (3 : Int) = a2 := by omega

theorem n24o3 (a2 : Int) (h0 : (-9223372036854775808 : Int) ≤ a2) (h1 : a2 ≤ (9223372036854775807 : Int)) (h2 : ¬ a2 < (2 : Int)) (h3 : ¬ (4 : Int) < a2) (h4 : ¬ (2 : Int) = a2) (h5 : ¬ (3 : Int) = a2) : (4 : Int) = a2 := by omega

theorem n24t0 (a1 a2 : Int) (l0 : (-9223372036854775808 : Int) ≤ a1) (u0 : a1 ≤ (9223372036854775807 : Int)) (l1 : (-9223372036854775808 : Int) ≤ a2) (u1 : a2 ≤ (9223372036854775807 : Int)) : n24R7.holds [a1, a2] := by
  refine Pt.h_fork (fun (f0 : a1 < (0 : Int)) => ?_) (fun (f0 : ¬ a1 < (0 : Int)) => ?_)
  · skip
    exact Pt.h_done
  · skip
    refine Pt.h_fork (fun (f1 : (3 : Int) < a1) => ?_) (fun (f1 : ¬ (3 : Int) < a1) => ?_)
    · skip
      exact Pt.h_done
    · skip
      refine Pt.h_fork (fun (f2 : a2 < (2 : Int)) => ?_) (fun (f2 : ¬ a2 < (2 : Int)) => ?_)
      · skip
        exact Pt.h_done
      · skip
        refine Pt.h_fork (fun (f3 : (4 : Int) < a2) => ?_) (fun (f3 : ¬ (4 : Int) < a2) => ?_)
        · skip
          exact Pt.h_done
        · skip
          refine Pt.h_fork (fun (f4 : (0 : Int) = a1) => ?_) (fun (f4 : ¬ (0 : Int) = a1) => ?_)
          · skip
            refine Pt.h_fork (fun (f5 : (3 : Int) = a2) => ?_) (fun (f5 : ¬ (3 : Int) = a2) => ?_)
            · skip
              exact Pt.h_done
            · skip
              refine Pt.h_fork (fun (f6 : (4 : Int) = a2) => ?_) (fun (f6 : ¬ (4 : Int) = a2) => ?_)
              · skip
                exact Pt.h_done
              · skip
                refine Pt.h_yes (show (2 : Int) = a2 from (n24o0 a2 l1 u1 f2 f3 f5 f6)) ?_
                exact Pt.h_done
          · skip
            refine Pt.h_fork (fun (f5 : (2 : Int) = a2) => ?_) (fun (f5 : ¬ (2 : Int) = a2) => ?_)
            · skip
              refine Pt.h_fork (fun (f6 : (1 : Int) = a1) => ?_) (fun (f6 : ¬ (1 : Int) = a1) => ?_)
              · skip
                exact Pt.h_done
              · skip
                refine Pt.h_fork (fun (f7 : (2 : Int) = a1) => ?_) (fun (f7 : ¬ (2 : Int) = a1) => ?_)
                · skip
                  exact Pt.h_done
                · skip
                  refine Pt.h_yes (show (3 : Int) = a1 from (n24o1 a1 l0 u0 f0 f1 f4 f6 f7)) ?_
                  exact Pt.h_done
            · skip
              refine Pt.h_fork (fun (f6 : (1 : Int) = a1) => ?_) (fun (f6 : ¬ (1 : Int) = a1) => ?_)
              · skip
                refine Pt.h_fork (fun (f7 : (4 : Int) = a2) => ?_) (fun (f7 : ¬ (4 : Int) = a2) => ?_)
                · skip
                  exact Pt.h_done
                · skip
                  refine Pt.h_yes (show (3 : Int) = a2 from (n24o2 a2 l1 u1 f2 f3 f5 f7)) ?_
                  exact Pt.h_done
              · skip
                refine Pt.h_fork (fun (f7 : (3 : Int) = a2) => ?_) (fun (f7 : ¬ (3 : Int) = a2) => ?_)
                · skip
                  refine Pt.h_fork (fun (f8 : (2 : Int) = a1) => ?_) (fun (f8 : ¬ (2 : Int) = a1) => ?_)
                  · skip
                    exact Pt.h_done
                  · skip
                    refine Pt.h_yes (show (3 : Int) = a1 from (n24o1 a1 l0 u0 f0 f1 f4 f6 f8)) ?_
                    exact Pt.h_done
                · skip
                  refine Pt.h_fork (fun (f8 : (2 : Int) = a1) => ?_) (fun (f8 : ¬ (2 : Int) = a1) => ?_)
                  · skip
                    refine Pt.h_yes (show (4 : Int) = a2 from (n24o3 a2 l1 u1 f2 f3 f5 f7)) ?_
                    exact Pt.h_done
                  · skip
                    refine Pt.h_yes (show (4 : Int) = a2 from (n24o3 a2 l1 u1 f2 f3 f5 f7)) ?_
                    refine Pt.h_yes (show (3 : Int) = a1 from (n24o1 a1 l0 u0 f0 f1 f4 f6 f8)) ?_
                    exact Pt.h_done

theorem n24rest : auto n24T9 [(-9223372036854775808, 9223372036854775807), (-9223372036854775808, 9223372036854775807)] = n24R7 := by kernel_rfl
theorem n24all (a1 a2 : Int) (l0 : (-9223372036854775808 : Int) ≤ a1) (u0 : a1 ≤ (9223372036854775807 : Int)) (l1 : (-9223372036854775808 : Int) ≤ a2) (u1 : a2 ≤ (9223372036854775807 : Int))  : n24T9.holds [a1, a2] :=
  holds_auto n24rest (fits_cons l0 u0 (fits_cons l1 u1 fits_nil)) (n24t0 a1 a2 l0 u0 l1 u1 )

def n25T0 : Pt := (.no (.eq (.c 1) (.v 0)) (.fork (.eq (.c 3) (.v 1)) (.no (.eq (.c 2) (.v 0)) (.no (.eq (.c 4) (.v 1)) (.no (.eq (.c 3) (.v 0)) (.no (.eq (.c 2) (.v 1)) (.is (.wr .u8 (.v 0)) (.c 0) .done))))) (.no (.eq (.c 2) (.v 0)) (.fork (.eq (.c 4) (.v 1)) (.no (.eq (.c 3) (.v 0)) (.no (.eq (.c 2) (.v 1)) (.is (.wr .u8 (.v 0)) (.c 0) .done))) (.no (.eq (.c 3) (.v 0)) (.yes (.eq (.c 2) (.v 1)) (.is (.wr .u8 (.v 0)) (.c 0) .done)))))))

def n25T1 : Pt := (.fork (.eq (.c 1) (.v 0)) (.no (.eq (.c 2) (.v 0)) (.no (.eq (.c 4) (.v 1)) (.no (.eq (.c 3) (.v 0)) (.no (.eq (.c 3) (.v 1)) (.is (.wr .u8 (.v 0)) (.c 1) .done))))) (.no (.eq (.c 3) (.v 1)) (.fork (.eq (.c 2) (.v 0)) (.no (.eq (.c 4) (.v 1)) (.no (.eq (.c 3) (.v 0)) (.is (.wr .u8 (.v 0)) (.c 2) .done))) (.no (.eq (.c 4) (.v 1)) (.yes (.eq (.c 3) (.v 0)) (.is (.wr .u8 (.v 0)) (.c 3) .done))))))

def n25T2 : Pt := (.fork (.eq (.c 3) (.v 1)) (.fork (.eq (.c 2) (.v 0)) (.no (.eq (.c 4) (.v 1)) (.no (.eq (.c 3) (.v 0)) (.is (.wr .u8 (.v 0)) (.c 2) .done))) (.no (.eq (.c 4) (.v 1)) (.yes (.eq (.c 3) (.v 0)) (.is (.wr .u8 (.v 0)) (.c 3) .done)))) (.fork (.eq (.c 2) (.v 0)) (.yes (.eq (.c 4) (.v 1)) (.no (.eq (.c 3) (.v 0)) (.is (.wr .u8 (.v 0)) (.c 2) .done))) (.yes (.eq (.c 4) (.v 1)) (.yes (.eq (.c 3) (.v 0)) (.is (.wr .u8 (.v 0)) (.c 3) .done)))))

def n25T3 : Pt := (.fork (.eq (.c 1) (.v 0)) (.no (.eq (.c 2) (.v 0)) (.fork (.eq (.c 4) (.v 1)) (.no (.eq (.c 3) (.v 0)) (.no (.eq (.c 3) (.v 1)) (.is (.wr .u8 (.v 0)) (.c 1) .done))) (.no (.eq (.c 3) (.v 0)) (.yes (.eq (.c 3) (.v 1)) (.is (.wr .u8 (.v 0)) (.c 1) .done))))) n25T2)

def n25T4 : Pt := (.fork (.eq (.c 2) (.v 1)) n25T1 n25T3)

def n25T5 : Pt := (.fork (.eq (.c 0) (.v 0)) n25T0 n25T4)

def n25T6 : Pt := (.fork (.lt (.c 4) (.v 1)) .done n25T5)

def n25T7 : Pt := (.fork (.lt (.v 1) (.c 2)) .done n25T6)

def n25T8 : Pt := (.fork (.lt (.c 3) (.v 0)) .done n25T7)

def n25T9 : Pt := (.fork (.lt (.v 0) (.c 0)) .done n25T8)

def n25R0 : Pt := (.fork (.eq (.c 3) (.v 1)) (.fork (.eq (.c 2) (.v 0)) .done (.yes (.eq (.c 3) (.v 0)) .done)) (.fork (.eq (.c 2) (.v 0)) (.yes (.eq (.c 4) (.v 1)) .done) (.yes (.eq (.c 4) (.v 1)) (.yes (.eq (.c 3) (.v 0)) .done))))

def n25R1 : Pt := (.fork (.eq (.c 1) (.v 0)) (.fork (.eq (.c 4) (.v 1)) .done (.yes (.eq (.c 3) (.v 1)) .done)) n25R0)

def n25R2 : Pt := (.fork (.eq (.c 2) (.v 1)) (.fork (.eq (.c 1) (.v 0)) .done (.fork (.eq (.c 2) (.v 0)) .done (.yes (.eq (.c 3) (.v 0)) .done))) n25R1)

def n25R3 : Pt := (.fork (.eq (.c 0) (.v 0)) (.fork (.eq (.c 3) (.v 1)) .done (.fork (.eq (.c 4) (.v 1)) .done (.yes (.eq (.c 2) (.v 1)) .done))) n25R2)

def n25R4 : Pt := (.fork (.lt (.c 4) (.v 1)) .done n25R3)

def n25R5 : Pt := (.fork (.lt (.v 1) (.c 2)) .done n25R4)

def n25R6 : Pt := (.fork (.lt (.c 3) (.v 0)) .done n25R5)

def n25R7 : Pt := (.fork (.lt (.v 0) (.c 0)) .done n25R6)

theorem n25o0 (a2 : Int) (h0 : (-9223372036854775808 : Int) ≤ a2) (h1 : a2 ≤ (9223372036854775807 : Int)) (h2 : ¬ a2 < (2 : Int)) (h3 : ¬ (4 : Int) < a2) (h4 : ¬ (3 : Int) = a2) (h5 : ¬ (4 : Int) = a2) : (2 : Int) = a2 := by omega

theorem n25o1 (a1 : Int) (h0 : (-9223372036854775808 : Int) ≤ a1) (h1 : a1 ≤ (9223372036854775807 : Int)) (h2 : ¬ a1 < (0 : Int)) (h3 : ¬ (3 : Int) < a1) (h4 : ¬ (0 : Int) = a1) (h5 : ¬ (1 : Int) = a1) (h6 : ¬ (2 : Int) = a1) : (3 : Int) = a1 := by omega

theorem n25o2 (a2 : Int) (h0 : (-9223372036854775808 : Int) ≤ a2) (h1 : a2 ≤ (9223372036854775807 : Int)) (h2 : ¬ a2 < (2 : Int)) (h3 : ¬ (4 : Int) < a2) (h4 : ¬ (2 : Int) = a2) (h5 : ¬ (4 : Int) = a2) : (3 : Int) = a2 := by omega

theorem n25o3 (a2 : Int) (h0 : (-9223372036854775808 : Int) ≤ a2) (h1 : a2 ≤ (9223372036854775807 : Int)) (h2 : ¬ a2 < (2 : Int)) (h3 : ¬ (4 : Int) < a2) (h4 : ¬ (2 : Int) = a2) (h5 : ¬ (3 : Int) = a2) : (4 : Int) = a2 := by omega

theorem n25t0 (a1 a2 : Int) (l0 : (-9223372036854775808 : Int) ≤ a1) (u0 : a1 ≤ (9223372036854775807 : Int)) (l1 : (-9223372036854775808 : Int) ≤ a2) (u1 : a2 ≤ (9223372036854775807 : Int)) : n25R7.holds [a1, a2] := by
  refine Pt.h_fork (fun (f0 : a1 < (0 : Int)) => ?_) (fun (f0 : ¬ a1 < (0 : Int)) => ?_)
  · skip
    exact Pt.h_done
  · skip
    refine Pt.h_fork (fun (f1 : (3 : Int) < a1) => ?_) (fun (f1 : ¬ (3 : Int) < a1) => ?_)
    · skip
      exact Pt.h_done
    · skip
      refine Pt.h_fork (fun (f2 : a2 < (2 : Int)) => ?_) (fun (f2 : ¬ a2 < (2 : Int)) => ?_)
      · skip
        exact Pt.h_done
      · skip
        refine Pt.h_fork (fun (f3 : (4 : Int) < a2) => ?_) (fun (f3 : ¬ (4 : Int) < a2) => ?_)
        · skip
          exact Pt.h_done
        · skip
          refine Pt.h_fork (fun (f4 : (0 : Int) = a1) => ?_) (fun (f4 : ¬ (0 : Int) = a1) => ?_)
          · skip
            refine Pt.h_fork (fun (f5 : (3 : Int) = a2) => ?_) (fun (f5 : ¬ (3 : Int) = a2) => ?_)
            · skip
              exact Pt.h_done
            · skip
              refine Pt.h_fork (fun (f6 : (4 : Int) = a2) => ?_) (fun (f6 : ¬ (4 : Int) = a2) => ?_)
              · skip
                exact Pt.h_done
              · skip
                refine Pt.h_yes (show (2 : Int) = a2 from (n25o0 a2 l1 u1 f2 f3 f5 f6)) ?_
                exact Pt.h_done
          · skip
            refine Pt.h_fork (fun (f5 : (2 : Int) = a2) => ?_) (fun (f5 : ¬ (2 : Int) = a2) => ?_)
            · skip
              refine Pt.h_fork (fun (f6 : (1 : Int) = a1) => ?_) (fun (f6 : ¬ (1 : Int) = a1) => ?_)
              · skip
                exact Pt.h_done
              · skip
                refine Pt.h_fork (fun (f7 : (2 : Int) = a1) => ?_) (fun (f7 : ¬ (2 : Int) = a1) => ?_)
                · skip
                  exact Pt.h_done
                · skip
                  refine Pt.h_yes (show (3 : Int) = a1 from (n25o1 a1 l0 u0 f0 f1 f4 f6 f7)) ?_
                  exact Pt.h_done
            · skip
              refine Pt.h_fork (fun (f6 : (1 : Int) = a1) => ?_) (fun (f6 : ¬ (1 : Int) = a1) => ?_)
              · skip
                refine Pt.h_fork (fun (f7 : (4 : Int) = a2) => ?_) (fun (f7 : ¬ (4 : Int) = a2) => ?_)
                · skip
                  exact Pt.h_done
                · skip
                  refine Pt.h_yes (show (3 : Int) = a2 from (n25o2 a2 l1 u1 f2 f3 f5 f7)) ?_
                  exact Pt.h_done
              · skip
                refine Pt.h_fork (fun (f7 : (3 : Int) = a2) => ?_) (fun (f7 : ¬ (3 : Int) = a2) => ?_)
                · skip
                  refine Pt.h_fork (fun (f8 : (2 : Int) = a1) => ?_) (fun (f8 : ¬ (2 : Int) = a1) => ?_)
                  · skip
                    exact Pt.h_done
                  · skip
                    refine Pt.h_yes (show (3 : Int) = a1 from (n25o1 a1 l0 u0 f0 f1 f4 f6 f8)) ?_
                    exact Pt.h_done
                · skip
                  refine Pt.h_fork (fun (f8 : (2 : Int) = a1) => ?_) (fun (f8 : ¬ (2 : Int) = a1) => ?_)
                  · skip
                    refine Pt.h_yes (show (4 : Int) = a2 from (n25o3 a2 l1 u1 f2 f3 f5 f7)) ?_
                    exact Pt.h_done
                  · skip
                    refine Pt.h_yes (show (4 : Int) = a2 from (n25o3 a2 l1 u1 f2 f3 f5 f7)) ?_
                    refine Pt.h_yes (show (3 : Int) = a1 from (n25o1 a1 l0 u0 f0 f1 f4 f6 f8)) ?_
                    exact Pt.h_done

theorem n25rest : auto n25T9 [(-9223372036854775808, 9223372036854775807), (-9223372036854775808, 9223372036854775807)] = n25R7 := by kernel_rfl
theorem n25all (a1 a2 : Int) (l0 : (-9223372036854775808 : Int) ≤ a1) (u0 : a1 ≤ (9223372036854775807 : Int)) (l1 : (-9223372036854775808 : Int) ≤ a2) (u1 : a2 ≤ (9223372036854775807 : Int))  : n25T9.holds [a1, a2] :=
  holds_auto n25rest (fits_cons l0 u0 (fits_cons l1 u1 fits_nil)) (n25t0 a1 a2 l0 u0 l1 u1 )

def n26T0 : Pt := (.no (.eq (.c 1) (.v 0)) (.fork (.eq (.c 3) (.v 1)) (.no (.eq (.c 2) (.v 0)) (.no (.eq (.c 4) (.v 1)) (.no (.eq (.c 3) (.v 0)) (.no (.eq (.c 2) (.v 1)) (.is (.wr .u8 (.v 0)) (.c 0) .done))))) (.no (.eq (.c 2) (.v 0)) (.fork (.eq (.c 4) (.v 1)) (.no (.eq (.c 3) (.v 0)) (.no (.eq (.c 2) (.v 1)) (.is (.wr .u8 (.v 0)) (.c 0) .done))) (.no (.eq (.c 3) (.v 0)) (.yes (.eq (.c 2) (.v 1)) (.is (.wr .u8 (.v 0)) (.c 0) .done)))))))

def n26T1 : Pt := (.fork (.eq (.c 1) (.v 0)) (.no (.eq (.c 2) (.v 0)) (.no (.eq (.c 4) (.v 1)) (.no (.eq (.c 3) (.v 0)) (.no (.eq (.c 3) (.v 1)) (.is (.wr .u8 (.v 0)) (.c 1) .done))))) (.no (.eq (.c 3) (.v 1)) (.fork (.eq (.c 2) (.v 0)) (.no (.eq (.c 4) (.v 1)) (.no (.eq (.c 3) (.v 0)) (.is (.wr .u8 (.v 0)) (.c 2) .done))) (.no (.eq (.c 4) (.v 1)) (.yes (.eq (.c 3) (.v 0)) (.is (.wr .u8 (.v 0)) (.c 3) .done))))))

def n26T2 : Pt := (.fork (.eq (.c 3) (.v 1)) (.fork (.eq (.c 2) (.v 0)) (.no (.eq (.c 4) (.v 1)) (.no (.eq (.c 3) (.v 0)) (.is (.wr .u8 (.v 0)) (.c 2) .done))) (.no (.eq (.c 4) (.v 1)) (.yes (.eq (.c 3) (.v 0)) (.is (.wr .u8 (.v 0)) (.c 3) .done)))) (.fork (.eq (.c 2) (.v 0)) (.yes (.eq (.c 4) (.v 1)) (.no (.eq (.c 3) (.v 0)) (.is (.wr .u8 (.v 0)) (.c 2) .done))) (.yes (.eq (.c 4) (.v 1)) (.yes (.eq (.c 3) (.v 0)) (.is (.wr .u8 (.v 0)) (.c 3) .done)))))

def n26T3 : Pt := (.fork (.eq (.c 1) (.v 0)) (.no (.eq (.c 2) (.v 0)) (.fork (.eq (.c 4) (.v 1)) (.no (.eq (.c 3) (.v 0)) (.no (.eq (.c 3) (.v 1)) (.is (.wr .u8 (.v 0)) (.c 1) .done))) (.no (.eq (.c 3) (.v 0)) (.yes (.eq (.c 3) (.v 1)) (.is (.wr .u8 (.v 0)) (.c 1) .done))))) n26T2)

def n26T4 : Pt := (.fork (.eq (.c 2) (.v 1)) n26T1 n26T3)

def n26T5 : Pt := (.fork (.eq (.c 0) (.v 0)) n26T0 n26T4)

def n26T6 : Pt := (.fork (.lt (.c 4) (.v 1)) .done n26T5)

def n26T7 : Pt := (.fork (.lt (.v 1) (.c 2)) .done n26T6)

def n26T8 : Pt := (.fork (.lt (.c 3) (.v 0)) .done n26T7)

def n26T9 : Pt := (.fork (.lt (.v 0) (.c 0)) .done n26T8)

def n26R0 : Pt := (.fork (.eq (.c 3) (.v 1)) (.fork (.eq (.c 2) (.v 0)) .done (.yes (.eq (.c 3) (.v 0)) .done)) (.fork (.eq (.c 2) (.v 0)) (.yes (.eq (.c 4) (.v 1)) .done) (.yes (.eq (.c 4) (.v 1)) (.yes (.eq (.c 3) (.v 0)) .done))))

def n26R1 : Pt := (.fork (.eq (.c 1) (.v 0)) (.fork (.eq (.c 4) (.v 1)) .done (.yes (.eq (.c 3) (.v 1)) .done)) n26R0)

def n26R2 : Pt := (.fork (.eq (.c 2) (.v 1)) (.fork (.eq (.c 1) (.v 0)) .done (.fork (.eq (.c 2) (.v 0)) .done (.yes (.eq (.c 3) (.v 0)) .done))) n26R1)

def n26R3 : Pt := (.fork (.eq (.c 0) (.v 0)) (.fork (.eq (.c 3) (.v 1)) .done (.fork (.eq (.c 4) (.v 1)) .done (.yes (.eq (.c 2) (.v 1)) .done))) n26R2)

def n26R4 : Pt := (.fork (.lt (.c 4) (.v 1)) .done n26R3)

def n26R5 : Pt := (.fork (.lt (.v 1) (.c 2)) .done n26R4)

def n26R6 : Pt := (.fork (.lt (.c 3) (.v 0)) .done n26R5)

def n26R7 : Pt := (.fork (.lt (.v 0) (.c 0)) .done n26R6)

theorem n26o0 (a2 : Int) (h0 : (-9223372036854775808 : Int) ≤ a2) (h1 : a2 ≤ (9223372036854775807 : Int)) (h2 : ¬ a2 < (2 : Int)) (h3 : ¬ (4 : Int) < a2) (h4 : ¬ (3 : Int) = a2) (h5 : ¬ (4 : Int) = a2) : (2 : Int) = a2 := by omega

theorem n26o1 (a1 : Int) (h0 : (-9223372036854775808 : Int) ≤ a1) (h1 : a1 ≤ (9223372036854775807 : Int)) (h2 : ¬ a1 < (0 : Int)) (h3 : ¬ (3 : Int) < a1) (h4 : ¬ (0 : Int) = a1) (h5 : ¬ (1 : Int) = a1) (h6 : ¬ (2 : Int) = a1) : (3 : Int) = a1 := by omega

theorem n26o2 (a2 : Int) (h0 : (-9223372036854775808 : Int) ≤ a2) (h1 : a2 ≤ (9223372036854775807 : Int)) (h2 : ¬ a2 < (2 : Int)) (h3 : ¬ (4 : Int) < a2) (h4 : ¬ (2 : Int) = a2) (h5 : ¬ (4 : Int) = a2) : (3 : Int) = a2 := by omega

theorem n26o3 (a2 : Int) (h0 : (-9223372036854775808 : Int) ≤ a2) (h1 : a2 ≤ (9223372036854775807 : Int)) (h2 : ¬ a2 < (2 : Int)) (h3 : ¬ (4 : Int) < a2) (h4 : ¬ (2 : Int) = a2) (h5 : ¬ (3 : Int) = a2) : (4 : Int) = a2 := by omega

theorem n26t0 (a1 a2 : Int) (l0 : (-9223372036854775808 : Int) ≤ a1) (u0 : a1 ≤ (9223372036854775807 : Int)) (l1 : (-9223372036854775808 : Int) ≤ a2) (u1 : a2 ≤ (9223372036854775807 : Int)) : n26R7.holds [a1, a2] := by
  refine Pt.h_fork (fun (f0 : a1 < (0 : Int)) => ?_) (fun (f0 : ¬ a1 < (0 : Int)) => ?_)
  · skip
    exact Pt.h_done
  · skip
    refine Pt.h_fork (fun (f1 : (3 : Int) < a1) => ?_) (fun (f1 : ¬ (3 : Int) < a1) => ?_)
    · skip
      exact Pt.h_done
    · skip
      refine Pt.h_fork (fun (f2 : a2 < (2 : Int)) => ?_) (fun (f2 : ¬ a2 < (2 : Int)) => ?_)
      · skip
        exact Pt.h_done
      · skip
        refine Pt.h_fork (fun (f3 : (4 : Int) < a2) => ?_) (fun (f3 : ¬ (4 : Int) < a2) => ?_)
        · skip
          exact Pt.h_done
        · skip
          refine Pt.h_fork (fun (f4 : (0 : Int) = a1) => ?_) (fun (f4 : ¬ (0 : Int) = a1) => ?_)
          · skip
            refine Pt.h_fork (fun (f5 : (3 : Int) = a2) => ?_) (fun (f5 : ¬ (3 : Int) = a2) => ?_)
            · skip
              exact Pt.h_done
            · skip
              refine Pt.h_fork (fun (f6 : (4 : Int) = a2) => ?_) (fun (f6 : ¬ (4 : Int) = a2) => ?_)
              · skip
                exact Pt.h_done
              · skip
                refine Pt.h_yes (show (2 : Int) = a2 from (n26o0 a2 l1 u1 f2 f3 f5 f6)) ?_
                exact Pt.h_done
          · skip
            refine Pt.h_fork (fun (f5 : (2 : Int) = a2) => ?_) (fun (f5 : ¬ (2 : Int) = a2) => ?_)
            · skip
              refine Pt.h_fork (fun (f6 : (1 : Int) = a1) => ?_) (fun (f6 : ¬ (1 : Int) = a1) => ?_)
              · skip
                exact Pt.h_done
              · skip
                refine Pt.h_fork (fun (f7 : (2 : Int) = a1) => ?_) (fun (f7 : ¬ (2 : Int) = a1) => ?_)
                · skip
                  exact Pt.h_done
                · skip
                  refine Pt.h_yes (show (3 : Int) = a1 from (n26o1 a1 l0 u0 f0 f1 f4 f6 f7)) ?_
                  exact Pt.h_done
            · skip
              refine Pt.h_fork (fun (f6 : (1 : Int) = a1) => ?_) (fun (f6 : ¬ (1 : Int) = a1) => ?_)
              · skip
                refine Pt.h_fork (fun (f7 : (4 : Int) = a2) => ?_) (fun (f7 : ¬ (4 : Int) = a2) => ?_)
                · skip
                  exact Pt.h_done
                · skip
                  refine Pt.h_yes (show (3 : Int) = a2 from (n26o2 a2 l1 u1 f2 f3 f5 f7)) ?_
                  exact Pt.h_done
              · skip
                refine Pt.h_fork (fun (f7 : (3 : Int) = a2) => ?_) (fun (f7 : ¬ (3 : Int) = a2) => ?_)
                · skip
                  refine Pt.h_fork (fun (f8 : (2 : Int) = a1) => ?_) (fun (f8 : ¬ (2 : Int) = a1) => ?_)
                  · skip
                    exact Pt.h_done
                  · skip
                    refine Pt.h_yes (show (3 : Int) = a1 from (n26o1 a1 l0 u0 f0 f1 f4 f6 f8)) ?_
                    exact Pt.h_done
                · skip
                  refine Pt.h_fork (fun (f8 : (2 : Int) = a1) => ?_) (fun (f8 : ¬ (2 : Int) = a1) => ?_)
                  · skip
                    refine Pt.h_yes (show (4 : Int) = a2 from (n26o3 a2 l1 u1 f2 f3 f5 f7)) ?_
                    exact Pt.h_done
                  · skip
                    refine Pt.h_yes (show (4 : Int) = a2 from (n26o3 a2 l1 u1 f2 f3 f5 f7)) ?_
                    refine Pt.h_yes (show (3 : Int) = a1 from (n26o1 a1 l0 u0 f0 f1 f4 f6 f8)) ?_
                    exact Pt.h_done

theorem n26rest : auto n26T9 [(-9223372036854775808, 9223372036854775807), (-9223372036854775808, 9223372036854775807)] = n26R7 := by kernel_rfl
theorem n26all (a1 a2 : Int) (l0 : (-9223372036854775808 : Int) ≤ a1) (u0 : a1 ≤ (9223372036854775807 : Int)) (l1 : (-9223372036854775808 : Int) ≤ a2) (u1 : a2 ≤ (9223372036854775807 : Int))  : n26T9.holds [a1, a2] :=
  holds_auto n26rest (fits_cons l0 u0 (fits_cons l1 u1 fits_nil)) (n26t0 a1 a2 l0 u0 l1 u1 )

def n27T0 : Pt := (.no (.eq (.c 1) (.v 0)) (.fork (.eq (.c 3) (.v 1)) (.no (.eq (.c 2) (.v 0)) (.no (.eq (.c 4) (.v 1)) (.no (.eq (.c 3) (.v 0)) (.no (.eq (.c 2) (.v 1)) (.is (.wr .u8 (.v 0)) (.c 0) .done))))) (.no (.eq (.c 2) (.v 0)) (.fork (.eq (.c 4) (.v 1)) (.no (.eq (.c 3) (.v 0)) (.no (.eq (.c 2) (.v 1)) (.is (.wr .u8 (.v 0)) (.c 0) .done))) (.no (.eq (.c 3) (.v 0)) (.yes (.eq (.c 2) (.v 1)) (.is (.wr .u8 (.v 0)) (.c 0) .done)))))))

def n27T1 : Pt := (.fork (.eq (.c 1) (.v 0)) (.no (.eq (.c 2) (.v 0)) (.no (.eq (.c 4) (.v 1)) (.no (.eq (.c 3) (.v 0)) (.no (.eq (.c 3) (.v 1)) (.is (.wr .u8 (.v 0)) (.c 1) .done))))) (.no (.eq (.c 3) (.v 1)) (.fork (.eq (.c 2) (.v 0)) (.no (.eq (.c 4) (.v 1)) (.no (.eq (.c 3) (.v 0)) (.is (.wr .u8 (.v 0)) (.c 2) .done))) (.no (.eq (.c 4) (.v 1)) (.yes (.eq (.c 3) (.v 0)) (.is (.wr .u8 (.v 0)) (.c 3) .done))))))

def n27T2 : Pt := (.fork (.eq (.c 3) (.v 1)) (.fork (.eq (.c 2) (.v 0)) (.no (.eq (.c 4) (.v 1)) (.no (.eq (.c 3) (.v 0)) (.is (.wr .u8 (.v 0)) (.c 2) .done))) (.no (.eq (.c 4) (.v 1)) (.yes (.eq (.c 3) (.v 0)) (.is (.wr .u8 (.v 0)) (.c 3) .done)))) (.fork (.eq (.c 2) (.v 0)) (.yes (.eq (.c 4) (.v 1)) (.no (.eq (.c 3) (.v 0)) (.is (.wr .u8 (.v 0)) (.c 2) .done))) (.yes (.eq (.c 4) (.v 1)) (.yes (.eq (.c 3) (.v 0)) (.is (.wr .u8 (.v 0)) (.c 3) .done)))))

def n27T3 : Pt := (.fork (.eq (.c 1) (.v 0)) (.no (.eq (.c 2) (.v 0)) (.fork (.eq (.c 4) (.v 1)) (.no (.eq (.c 3) (.v 0)) (.no (.eq (.c 3) (.v 1)) (.is (.wr .u8 (.v 0)) (.c 1) .done))) (.no (.eq (.c 3) (.v 0)) (.yes (.eq (.c 3) (.v 1)) (.is (.wr .u8 (.v 0)) (.c 1) .done))))) n27T2)

def n27T4 : Pt := (.fork (.eq (.c 2) (.v 1)) n27T1 n27T3)

def n27T5 : Pt := (.fork (.eq (.c 0) (.v 0)) n27T0 n27T4)

def n27T6 : Pt := (.fork (.lt (.c 4) (.v 1)) .done n27T5)

def n27T7 : Pt := (.fork (.lt (.v 1) (.c 2)) .done n27T6)

def n27T8 : Pt := (.fork (.lt (.c 3) (.v 0)) .done n27T7)

def n27T9 : Pt := (.fork (.lt (.v 0) (.c 0)) .done n27T8)

def n27R0 : Pt := (.fork (.eq (.c 3) (.v 1)) (.fork (.eq (.c 2) (.v 0)) .done (.yes (.eq (.c 3) (.v 0)) .done)) (.fork (.eq (.c 2) (.v 0)) (.yes (.eq (.c 4) (.v 1)) .done) (.yes (.eq (.c 4) (.v 1)) (.yes (.eq (.c 3) (.v 0)) .done))))

def n27R1 : Pt := (.fork (.eq (.c 1) (.v 0)) (.fork (.eq (.c 4) (.v 1)) .done (.yes (.eq (.c 3) (.v 1)) .done)) n27R0)

def n27R2 : Pt := (.fork (.eq (.c 2) (.v 1)) (.fork (.eq (.c 1) (.v 0)) .done (.fork (.eq (.c 2) (.v 0)) .done (.yes (.eq (.c 3) (.v 0)) .done))) n27R1)

def n27R3 : Pt := (.fork (.eq (.c 0) (.v 0)) (.fork (.eq (.c 3) (.v 1)) .done (.fork (.eq (.c 4) (.v 1)) .done (.yes (.eq (.c 2) (.v 1)) .done))) n27R2)

def n27R4 : Pt := (.fork (.lt (.c 4) (.v 1)) .done n27R3)

def n27R5 : Pt := (.fork (.lt (.v 1) (.c 2)) .done n27R4)

def n27R6 : Pt := (.fork (.lt (.c 3) (.v 0)) .done n27R5)

def n27R7 : Pt := (.fork (.lt (.v 0) (.c 0)) .done n27R6)

theorem n27o0 (a2 : Int) (h0 : (-9223372036854775808 : Int) ≤ a2) (h1 : a2 ≤ (9223372036854775807 : Int)) (h2 : ¬ a2 < (2 : Int)) (h3 : ¬ (4 : Int) < a2) (h4 : ¬ (3 : Int) = a2) (h5 : ¬ (4 : Int) = a2) : (2 : Int) = a2 := by omega

theorem n27o1 (a1 : Int) (h0 : (-9223372036854775808 : Int) ≤ a1) (h1 : a1 ≤ (9223372036854775807 : Int)) (h2 : ¬ a1 < (0 : Int)) (h3 : ¬ (3 : Int) < a1) (h4 : ¬ (0 : Int) = a1) (h5 : ¬ (1 : Int) = a1) (h6 : ¬ (2 : Int) = a1) : (3 : Int) = a1 := by omega

theorem n27o2 (a2 : Int) (h0 : (-9223372036854775808 : Int) ≤ a2) (h1 : a2 ≤ (9223372036854775807 : Int)) (h2 : ¬ a2 < (2 : Int)) (h3 : ¬ (4 : Int) < a2) (h4 : ¬ (2 : Int) = a2) (h5 : ¬ (4 : Int) = a2) : (3 : Int) = a2 := by omega

theorem n27o3 (a2 : Int) (h0 : (-9223372036854775808 : Int) ≤ a2) (h1 : a2 ≤ (9223372036854775807 : Int)) (h2 : ¬ a2 < (2 : Int)) (h3 : ¬ (4 : Int) < a2) (h4 : ¬ (2 : Int) = a2) (h5 : ¬ (3 : Int) = a2) : (4 : Int) = a2 := by omega

theorem n27t0 (a1 a2 : Int) (l0 : (-9223372036854775808 : Int) ≤ a1) (u0 : a1 ≤ (9223372036854775807 : Int)) (l1 : (-9223372036854775808 : Int) ≤ a2) (u1 : a2 ≤ (9223372036854775807 : Int)) : n27R7.holds [a1, a2] := by
  refine Pt.h_fork (fun (f0 : a1 < (0 : Int)) => ?_) (fun (f0 : ¬ a1 < (0 : Int)) => ?_)
  · skip
    exact Pt.h_done
  · skip
    refine Pt.h_fork (fun (f1 : (3 : Int) < a1) => ?_) (fun (f1 : ¬ (3 : Int) < a1) => ?_)
    · skip
      exact Pt.h_done
    · skip
      refine Pt.h_fork (fun (f2 : a2 < (2 : Int)) => ?_) (fun (f2 : ¬ a2 < (2 : Int)) => ?_)
      · skip
        exact Pt.h_done
      · skip
        refine Pt.h_fork (fun (f3 : (4 : Int) < a2) => ?_) (fun (f3 : ¬ (4 : Int) < a2) => ?_)
        · skip
          exact Pt.h_done
        · skip
          refine Pt.h_fork (fun (f4 : (0 : Int) = a1) => ?_) (fun (f4 : ¬ (0 : Int) = a1) => ?_)
          · skip
            refine Pt.h_fork (fun (f5 : (3 : Int) = a2) => ?_) (fun (f5 : ¬ (3 : Int) = a2) => ?_)
            · skip
              exact Pt.h_done
            · skip
              refine Pt.h_fork (fun (f6 : (4 : Int) = a2) => ?_) (fun (f6 : ¬ (4 : Int) = a2) => ?_)
              · skip
                exact Pt.h_done
              · skip
                refine Pt.h_yes (show (2 : Int) = a2 from (n27o0 a2 l1 u1 f2 f3 f5 f6)) ?_
                exact Pt.h_done
          · skip
            refine Pt.h_fork (fun (f5 : (2 : Int) = a2) => ?_) (fun (f5 : ¬ (2 : Int) = a2) => ?_)
            · skip
              refine Pt.h_fork (fun (f6 : (1 : Int) = a1) => ?_) (fun (f6 : ¬ (1 : Int) = a1) => ?_)
              · skip
                exact Pt.h_done
              · skip
                refine Pt.h_fork (fun (f7 : (2 : Int) = a1) => ?_) (fun (f7 : ¬ (2 : Int) = a1) => ?_)
                · skip
                  exact Pt.h_done
                · skip
                  refine Pt.h_yes (show (3 : Int) = a1 from (n27o1 a1 l0 u0 f0 f1 f4 f6 f7)) ?_
                  exact Pt.h_done
            · skip
              refine Pt.h_fork (fun (f6 : (1 : Int) = a1) => ?_) (fun (f6 : ¬ (1 : Int) = a1) => ?_)
              · skip
                refine Pt.h_fork (fun (f7 : (4 : Int) = a2) => ?_) (fun (f7 : ¬ (4 : Int) = a2) => ?_)
                · skip
                  exact Pt.h_done
                · skip
                  refine Pt.h_yes (show (3 : Int) = a2 from (n27o2 a2 l1 u1 f2 f3 f5 f7)) ?_
                  exact Pt.h_done
              · skip
                refine Pt.h_fork (fun (f7 : (3 : Int) = a2) => ?_) (fun (f7 : ¬ (3 : Int) = a2) => ?_)
                · skip
                  refine Pt.h_fork (fun (f8 : (2 : Int) = a1) => ?_) (fun (f8 : ¬ (2 : Int) = a1) => ?_)
                  · skip
                    exact Pt.h_done
                  · skip
                    refine Pt.h_yes (show (3 : Int) = a1 from (n27o1 a1 l0 u0 f0 f1 f4 f6 f8)) ?_
                    exact Pt.h_done
                · skip
                  refine Pt.h_fork (fun (f8 : (2 : Int) = a1) => ?_) (fun (f8 : ¬ (2 : Int) = a1) => ?_)
                  · skip
                    refine Pt.h_yes (show (4 : Int) = a2 from (n27o3 a2 l1 u1 f2 f3 f5 f7)) ?_
                    exact Pt.h_done
                  · skip
                    refine Pt.h_yes (show (4 : Int) = a2 from (n27o3 a2 l1 u1 f2 f3 f5 f7)) ?_
                    refine Pt.h_yes (show (3 : Int) = a1 from (n27o1 a1 l0 u0 f0 f1 f4 f6 f8)) ?_
                    exact Pt.h_done

theorem n27rest : auto n27T9 [(-9223372036854775808, 9223372036854775807), (-9223372036854775808, 9223372036854775807)] = n27R7 := by kernel_rfl
theorem n27all (a1 a2 : Int) (l0 : (-9223372036854775808 : Int) ≤ a1) (u0 : a1 ≤ (9223372036854775807 : Int)) (l1 : (-9223372036854775808 : Int) ≤ a2) (u1 : a2 ≤ (9223372036854775807 : Int))  : n27T9.holds [a1, a2] :=
  holds_auto n27rest (fits_cons l0 u0 (fits_cons l1 u1 fits_nil)) (n27t0 a1 a2 l0 u0 l1 u1 )

def n28T0 : Pt := (.no (.eq (.c 1) (.v 0)) (.fork (.eq (.c 3) (.v 1)) (.no (.eq (.c 2) (.v 0)) (.no (.eq (.c 4) (.v 1)) (.no (.eq (.c 3) (.v 0)) (.no (.eq (.c 2) (.v 1)) (.is (.wr .u8 (.v 0)) (.c 0) .done))))) (.no (.eq (.c 2) (.v 0)) (.fork (.eq (.c 4) (.v 1)) (.no (.eq (.c 3) (.v 0)) (.no (.eq (.c 2) (.v 1)) (.is (.wr .u8 (.v 0)) (.c 0) .done))) (.no (.eq (.c 3) (.v 0)) (.yes (.eq (.c 2) (.v 1)) (.is (.wr .u8 (.v 0)) (.c 0) .done)))))))

def n28T1 : Pt := (.fork (.eq (.c 1) (.v 0)) (.no (.eq (.c 2) (.v 0)) (.no (.eq (.c 4) (.v 1)) (.no (.eq (.c 3) (.v 0)) (.no (.eq (.c 3) (.v 1)) (.is (.wr .u8 (.v 0)) (.c 1) .done))))) (.no (.eq (.c 3) (.v 1)) (.fork (.eq (.c 2) (.v 0)) (.no (.eq (.c 4) (.v 1)) (.no (.eq (.c 3) (.v 0)) (.is (.wr .u8 (.v 0)) (.c 2) .done))) (.no (.eq (.c 4) (.v 1)) (.yes (.eq (.c 3) (.v 0)) (.is (.wr .u8 (.v 0)) (.c 3) .done))))))

def n28T2 : Pt := (.fork (.eq (.c 3) (.v 1)) (.fork (.eq (.c 2) (.v 0)) (.no (.eq (.c 4) (.v 1)) (.no (.eq (.c 3) (.v 0)) (.is (.wr .u8 (.v 0)) (.c 2) .done))) (.no (.eq (.c 4) (.v 1)) (.yes (.eq (.c 3) (.v 0)) (.is (.wr .u8 (.v 0)) (.c 3) .done)))) (.fork (.eq (.c 2) (.v 0)) (.yes (.eq (.c 4) (.v 1)) (.no (.eq (.c 3) (.v 0)) (.is (.wr .u8 (.v 0)) (.c 2) .done))) (.yes (.eq (.c 4) (.v 1)) (.yes (.eq (.c 3) (.v 0)) (.is (.wr .u8 (.v 0)) (.c 3) .done)))))

def n28T3 : Pt := (.fork (.eq (.c 1) (.v 0)) (.no (.eq (.c 2) (.v 0)) (.fork (.eq (.c 4) (.v 1)) (.no (.eq (.c 3) (.v 0)) (.no (.eq (.c 3) (.v 1)) (.is (.wr .u8 (.v 0)) (.c 1) .done))) (.no (.eq (.c 3) (.v 0)) (.yes (.eq (.c 3) (.v 1)) (.is (.wr .u8 (.v 0)) (.c 1) .done))))) n28T2)

def n28T4 : Pt := (.fork (.eq (.c 2) (.v 1)) n28T1 n28T3)

def n28T5 : Pt := (.fork (.eq (.c 0) (.v 0)) n28T0 n28T4)

def n28T6 : Pt := (.fork (.lt (.c 4) (.v 1)) .done n28T5)

def n28T7 : Pt := (.fork (.lt (.v 1) (.c 2)) .done n28T6)

def n28T8 : Pt := (.fork (.lt (.c 3) (.v 0)) .done n28T7)

def n28T9 : Pt := (.fork (.lt (.v 0) (.c 0)) .done n28T8)

def n28R0 : Pt := (.fork (.eq (.c 3) (.v 1)) (.fork (.eq (.c 2) (.v 0)) .done (.yes (.eq (.c 3) (.v 0)) .done)) (.fork (.eq (.c 2) (.v 0)) (.yes (.eq (.c 4) (.v 1)) .done) (.yes (.eq (.c 4) (.v 1)) (.yes (.eq (.c 3) (.v 0)) .done))))

def n28R1 : Pt := (.fork (.eq (.c 1) (.v 0)) (.fork (.eq (.c 4) (.v 1)) .done (.yes (.eq (.c 3) (.v 1)) .done)) n28R0)

def n28R2 : Pt := (.fork (.eq (.c 2) (.v 1)) (.fork (.eq (.c 1) (.v 0)) .done (.fork (.eq (.c 2) (.v 0)) .done (.yes (.eq (.c 3) (.v 0)) .done))) n28R1)

def n28R3 : Pt := (.fork (.eq (.c 0) (.v 0)) (.fork (.eq (.c 3) (.v 1)) .done (.fork (.eq (.c 4) (.v 1)) .done (.yes (.eq (.c 2) (.v 1)) .done))) n28R2)

def n28R4 : Pt := (.fork (.lt (.c 4) (.v 1)) .done n28R3)

def n28R5 : Pt := (.fork (.lt (.v 1) (.c 2)) .done n28R4)

def n28R6 : Pt := (.fork (.lt (.c 3) (.v 0)) .done n28R5)

def n28R7 : Pt := (.fork (.lt (.v 0) (.c 0)) .done n28R6)

theorem n28o0 (a2 : Int) (h0 : (-9223372036854775808 : Int) ≤ a2) (h1 : a2 ≤ (9223372036854775807 : Int)) (h2 : ¬ a2 < (2 : Int)) (h3 : ¬ (4 : Int) < a2) (h4 : ¬ (3 : Int) = a2) (h5 : ¬ (4 : Int) = a2) : (2 : Int) = a2 := by omega

theorem n28o1 (a1 : Int) (h0 : (-9223372036854775808 : Int) ≤ a1) (h1 : a1 ≤ (9223372036854775807 : Int)) (h2 : ¬ a1 < (0 : Int)) (h3 : ¬ (3 : Int) < a1) (h4 : ¬ (0 : Int) = a1) (h5 : ¬ (1 : Int) = a1) (h6 : ¬ (2 : Int) = a1) : (3 : Int) = a1 := by omega

theorem n28o2 (a2 : Int) (h0 : (-9223372036854775808 : Int) ≤ a2) (h1 : a2 ≤ (9223372036854775807 : Int)) (h2 : ¬ a2 < (2 : Int)) (h3 : ¬ (4 : Int) < a2) (h4 : ¬ (2 : Int) = a2) (h5 : ¬ (4 : Int) = a2) : (3 : Int) = a2 := by omega

theorem n28o3 (a2 : Int) (h0 : (-9223372036854775808 : Int) ≤ a2) (h1 : a2 ≤ (9223372036854775807 : Int)) (h2 : ¬ a2 < (2 : Int)) (h3 : ¬ (4 : Int) < a2) (h4 : ¬ (2 : Int) = a2) (h5 : ¬ (3 : Int) = a2) : (4 : Int) = a2 := by omega

theorem n28t0 (a1 a2 : Int) (l0 : (-9223372036854775808 : Int) ≤ a1) (u0 : a1 ≤ (9223372036854775807 : Int)) (l1 : (-9223372036854775808 : Int) ≤ a2) (u1 : a2 ≤ (9223372036854775807 : Int)) : n28R7.holds [a1, a2] := by
  refine Pt.h_fork (fun (f0 : a1 < (0 : Int)) => ?_) (fun (f0 : ¬ a1 < (0 : Int)) => ?_)
  · skip
    exact Pt.h_done
  · skip
    refine Pt.h_fork (fun (f1 : (3 : Int) < a1) => ?_) (fun (f1 : ¬ (3 : Int) < a1) => ?_)
    · skip
      exact Pt.h_done
    · skip
      refine Pt.h_fork (fun (f2 : a2 < (2 : Int)) => ?_) (fun (f2 : ¬ a2 < (2 : Int)) => ?_)
      · skip
        exact Pt.h_done
      · skip
        refine Pt.h_fork (fun (f3 : (4 : Int) < a2) => ?_) (fun (f3 : ¬ (4 : Int) < a2) => ?_)
        · skip
          exact Pt.h_done
        · skip
          refine Pt.h_fork (fun (f4 : (0 : Int) = a1) => ?_) (fun (f4 : ¬ (0 : Int) = a1) => ?_)
          · skip
            refine Pt.h_fork (fun (f5 : (3 : Int) = a2) => ?_) (fun (f5 : ¬ (3 : Int) = a2) => ?_)
            · skip
              exact Pt.h_done
            · skip
              refine Pt.h_fork (fun (f6 : (4 : Int) = a2) => ?_) (fun (f6 : ¬ (4 : Int) = a2) => ?_)
              · skip
                exact Pt.h_done
              · skip
                refine Pt.h_yes (show (2 : Int) = a2 from (n28o0 a2 l1 u1 f2 f3 f5 f6)) ?_
                exact Pt.h_done
          · skip
            refine Pt.h_fork (fun (f5 : (2 : Int) = a2) => ?_) (fun (f5 : ¬ (2 : Int) = a2) => ?_)
            · skip
              refine Pt.h_fork (fun (f6 : (1 : Int) = a1) => ?_) (fun (f6 : ¬ (1 : Int) = a1) => ?_)
              · skip
                exact Pt.h_done
              · skip
                refine Pt.h_fork (fun (f7 : (2 : Int) = a1) => ?_) (fun (f7 : ¬ (2 : Int) = a1) => ?_)
                · skip
                  exact Pt.h_done
                · skip
                  refine Pt.h_yes (show (3 : Int) = a1 from (n28o1 a1 l0 u0 f0 f1 f4 f6 f7)) ?_
                  exact Pt.h_done
            · skip
              refine Pt.h_fork (fun (f6 : (1 : Int) = a1) => ?_) (fun (f6 : ¬ (1 : Int) = a1) => ?_)
              · skip
                refine Pt.h_fork (fun (f7 : (4 : Int) = a2) => ?_) (fun (f7 : ¬ (4 : Int) = a2) => ?_)
                · skip
                  exact Pt.h_done
                · skip
                  refine Pt.h_yes (show (3 : Int) = a2 from (n28o2 a2 l1 u1 f2 f3 f5 f7)) ?_
                  exact Pt.h_done
              · skip
                refine Pt.h_fork (fun (f7 : (3 : Int) = a2) => ?_) (fun (f7 : ¬ (3 : Int) = a2) => ?_)
                · skip
                  refine Pt.h_fork (fun (f8 : (2 : Int) = a1) => ?_) (fun (f8 : ¬ (2 : Int) = a1) => ?_)
                  · skip
                    exact Pt.h_done
                  · skip
                    refine Pt.h_yes (show (3 : Int) = a1 from (n28o1 a1 l0 u0 f0 f1 f4 f6 f8)) ?_
                    exact Pt.h_done
                · skip
                  refine Pt.h_fork (fun (f8 : (2 : Int) = a1) => ?_) (fun (f8 : ¬ (2 : Int) = a1) => ?_)
                  · skip
                    refine Pt.h_yes (show (4 : Int) = a2 from (n28o3 a2 l1 u1 f2 f3 f5 f7)) ?_
                    exact Pt.h_done
                  · skip
                    refine Pt.h_yes (show (4 : Int) = a2 from (n28o3 a2 l1 u1 f2 f3 f5 f7)) ?_
                    refine Pt.h_yes (show (3 : Int) = a1 from (n28o1 a1 l0 u0 f0 f1 f4 f6 f8)) ?_
                    exact Pt.h_done

theorem n28rest : auto n28T9 [(-9223372036854775808, 9223372036854775807), (-9223372036854775808, 9223372036854775807)] = n28R7 := by kernel_rfl
theorem n28all (a1 a2 : Int) (l0 : (-9223372036854775808 : Int) ≤ a1) (u0 : a1 ≤ (9223372036854775807 : Int)) (l1 : (-9223372036854775808 : Int) ≤ a2) (u1 : a2 ≤ (9223372036854775807 : Int))  : n28T9.holds [a1, a2] :=
  holds_auto n28rest (fits_cons l0 u0 (fits_cons l1 u1 fits_nil)) (n28t0 a1 a2 l0 u0 l1 u1 )

def n29T0 : Pt := (.no (.eq (.c 1) (.v 0)) (.fork (.eq (.c 3) (.v 1)) (.no (.eq (.c 2) (.v 0)) (.no (.eq (.c 4) (.v 1)) (.no (.eq (.c 3) (.v 0)) (.no (.eq (.c 2) (.v 1)) (.is (.wr .u8 (.v 0)) (.c 0) .done))))) (.no (.eq (.c 2) (.v 0)) (.fork (.eq (.c 4) (.v 1)) (.no (.eq (.c 3) (.v 0)) (.no (.eq (.c 2) (.v 1)) (.is (.wr .u8 (.v 0)) (.c 0) .done))) (.no (.eq (.c 3) (.v 0)) (.yes (.eq (.c 2) (.v 1)) (.is (.wr .u8 (.v 0)) (.c 0) .done)))))))

def n29T1 : Pt := (.fork (.eq (.c 1) (.v 0)) (.no (.eq (.c 2) (.v 0)) (.no (.eq (.c 4) (.v 1)) (.no (.eq (.c 3) (.v 0)) (.no (.eq (.c 3) (.v 1)) (.is (.wr .u8 (.v 0)) (.c 1) .done))))) (.no (.eq (.c 3) (.v 1)) (.fork (.eq (.c 2) (.v 0)) (.no (.eq (.c 4) (.v 1)) (.no (.eq (.c 3) (.v 0)) (.is (.wr .u8 (.v 0)) (.c 2) .done))) (.no (.eq (.c 4) (.v 1)) (.yes (.eq (.c 3) (.v 0)) (.is (.wr .u8 (.v 0)) (.c 3) .done))))))

def n29T2 : Pt := (.fork (.eq (.c 3) (.v 1)) (.fork (.eq (.c 2) (.v 0)) (.no (.eq (.c 4) (.v 1)) (.no (.eq (.c 3) (.v 0)) (.is (.wr .u8 (.v 0)) (.c 2) .done))) (.no (.eq (.c 4) (.v 1)) (.yes (.eq (.c 3) (.v 0)) (.is (.wr .u8 (.v 0)) (.c 3) .done)))) (.fork (.eq (.c 2) (.v 0)) (.yes (.eq (.c 4) (.v 1)) (.no (.eq (.c 3) (.v 0)) (.is (.wr .u8 (.v 0)) (.c 2) .done))) (.yes (.eq (.c 4) (.v 1)) (.yes (.eq (.c 3) (.v 0)) (.is (.wr .u8 (.v 0)) (.c 3) .done)))))

def n29T3 : Pt := (.fork (.eq (.c 1) (.v 0)) (.no (.eq (.c 2) (.v 0)) (.fork (.eq (.c 4) (.v 1)) (.no (.eq (.c 3) (.v 0)) (.no (.eq (.c 3) (.v 1)) (.is (.wr .u8 (.v 0)) (.c 1) .done))) (.no (.eq (.c 3) (.v 0)) (.yes (.eq (.c 3) (.v 1)) (.is (.wr .u8 (.v 0)) (.c 1) .done))))) n29T2)

def n29T4 : Pt := (.fork (.eq (.c 2) (.v 1)) n29T1 n29T3)

def n29T5 : Pt := (.fork (.eq (.c 0) (.v 0)) n29T0 n29T4)

def n29T6 : Pt := (.fork (.lt (.c 4) (.v 1)) .done n29T5)

def n29T7 : Pt := (.fork (.lt (.v 1) (.c 2)) .done n29T6)

def n29T8 : Pt := (.fork (.lt (.c 3) (.v 0)) .done n29T7)

def n29T9 : Pt := (.fork (.lt (.v 0) (.c 0)) .done n29T8)

def n29R0 : Pt := (.fork (.eq (.c 3) (.v 1)) (.fork (.eq (.c 2) (.v 0)) .done (.yes (.eq (.c 3) (.v 0)) .done)) (.fork (.eq (.c 2) (.v 0)) (.yes (.eq (.c 4) (.v 1)) .done) (.yes (.eq (.c 4) (.v 1)) (.yes (.eq (.c 3) (.v 0)) .done))))

def n29R1 : Pt := (.fork (.eq (.c 1) (.v 0)) (.fork (.eq (.c 4) (.v 1)) .done (.yes (.eq (.c 3) (.v 1)) .done)) n29R0)

def n29R2 : Pt := (.fork (.eq (.c 2) (.v 1)) (.fork (.eq (.c 1) (.v 0)) .done (.fork (.eq (.c 2) (.v 0)) .done (.yes (.eq (.c 3) (.v 0)) .done))) n29R1)

def n29R3 : Pt := (.fork (.eq (.c 0) (.v 0)) (.fork (.eq (.c 3) (.v 1)) .done (.fork (.eq (.c 4) (.v 1)) .done (.yes (.eq (.c 2) (.v 1)) .done))) n29R2)

def n29R4 : Pt := (.fork (.lt (.c 4) (.v 1)) .done n29R3)

def n29R5 : Pt := (.fork (.lt (.v 1) (.c 2)) .done n29R4)

def n29R6 : Pt := (.fork (.lt (.c 3) (.v 0)) .done n29R5)

def n29R7 : Pt := (.fork (.lt (.v 0) (.c 0)) .done n29R6)

theorem n29o0 (a2 : Int) (h0 : (-9223372036854775808 : Int) ≤ a2) (h1 : a2 ≤ (9223372036854775807 : Int)) (h2 : ¬ a2 < (2 : Int)) (h3 : ¬ (4 : Int) < a2) (h4 : ¬ (3 : Int) = a2) (h5 : ¬ (4 : Int) = a2) : (2 : Int) = a2 := by omega

theorem n29o1 (a1 : Int) (h0 : (-9223372036854775808 : Int) ≤ a1) (h1 : a1 ≤ (9223372036854775807 : Int)) (h2 : ¬ a1 < (0 : Int)) (h3 : ¬ (3 : Int) < a1) (h4 : ¬ (0 : Int) = a1) (h5 : ¬ (1 : Int) = a1) (h6 : ¬ (2 : Int) = a1) : (3 : Int) = a1 := by omega

theorem n29o2 (a2 : Int) (h0 : (-9223372036854775808 : Int) ≤ a2) (h1 : a2 ≤ (9223372036854775807 : Int)) (h2 : ¬ a2 < (2 : Int)) (h3 : ¬ (4 : Int) < a2) (h4 : ¬ (2 : Int) = a2) (h5 : ¬ (4 : Int) = a2) : (3 : Int) = a2 := by omega

theorem n29o3 (a2 : Int) (h0 : (-9223372036854775808 : Int) ≤ a2) (h1 : a2 ≤ (9223372036854775807 : Int)) (h2 : ¬ a2 < (2 : Int)) (h3 : ¬ (4 : Int) < a2) (h4 : ¬ (2 : Int) = a2) (h5 : ¬ (3 : Int) = a2) : (4 : Int) = a2 := by omega

theorem n29t0 (a1 a2 : Int) (l0 : (-9223372036854775808 : Int) ≤ a1) (u0 : a1 ≤ (9223372036854775807 : Int)) (l1 : (-9223372036854775808 : Int) ≤ a2) (u1 : a2 ≤ (9223372036854775807 : Int)) : n29R7.holds [a1, a2] := by
  refine Pt.h_fork (fun (f0 : a1 < (0 : Int)) => ?_) (fun (f0 : ¬ a1 < (0 : Int)) => ?_)
  · skip
    exact Pt.h_done
  · skip
    refine Pt.h_fork (fun (f1 : (3 : Int) < a1) => ?_) (fun (f1 : ¬ (3 : Int) < a1) => ?_)
    · skip
      exact Pt.h_done
    · skip
      refine Pt.h_fork (fun (f2 : a2 < (2 : Int)) => ?_) (fun (f2 : ¬ a2 < (2 : Int)) => ?_)
      · skip
        exact Pt.h_done
      · skip
        refine Pt.h_fork (fun (f3 : (4 : Int) < a2) => ?_) (fun (f3 : ¬ (4 : Int) < a2) => ?_)
        · skip
          exact Pt.h_done
        · skip
          refine Pt.h_fork (fun (f4 : (0 : Int) = a1) => ?_) (fun (f4 : ¬ (0 : Int) = a1) => ?_)
          · skip
            refine Pt.h_fork (fun (f5 : (3 : Int) = a2) => ?_) (fun (f5 : ¬ (3 : Int) = a2) => ?_)
            · skip
              exact Pt.h_done
            · skip
              refine Pt.h_fork (fun (f6 : (4 : Int) = a2) => ?_) (fun (f6 : ¬ (4 : Int) = a2) => ?_)
              · skip
                exact Pt.h_done
              · skip
                refine Pt.h_yes (show (2 : Int) = a2 from (n29o0 a2 l1 u1 f2 f3 f5 f6)) ?_
                exact Pt.h_done
          · skip
            refine Pt.h_fork (fun (f5 : (2 : Int) = a2) => ?_) (fun (f5 : ¬ (2 : Int) = a2) => ?_)
            · skip
              refine Pt.h_fork (fun (f6 : (1 : Int) = a1) => ?_) (fun (f6 : ¬ (1 : Int) = a1) => ?_)
              · skip
                exact Pt.h_done
              · skip
                refine Pt.h_fork (fun (f7 : (2 : Int) = a1) => ?_) (fun (f7 : ¬ (2 : Int) = a1) => ?_)
                · skip
                  exact Pt.h_done
                · skip
                  refine Pt.h_yes (show (3 : Int) = a1 from (n29o1 a1 l0 u0 f0 f1 f4 f6 f7)) ?_
                  exact Pt.h_done
            · skip
              refine Pt.h_fork (fun (f6 : (1 : Int) = a1) => ?_) (fun (f6 : ¬ (1 : Int) = a1) => ?_)
              · skip
                refine Pt.h_fork (fun (f7 : (4 : Int) = a2) => ?_) (fun (f7 : ¬ (4 : Int) = a2) => ?_)
                · skip
                  exact Pt.h_done
                · skip
                  refine Pt.h_yes (show (3 : Int) = a2 from (n29o2 a2 l1 u1 f2 f3 f5 f7)) ?_
                  exact Pt.h_done
              · skip
                refine Pt.h_fork (fun (f7 : (3 : Int) = a2) => ?_) (fun (f7 : ¬ (3 : Int) = a2) => ?_)
                · skip
                  refine Pt.h_fork (fun (f8 : (2 : Int) = a1) => ?_) (fun (f8 : ¬ (2 : Int) = a1) => ?_)
                  · skip
                    exact Pt.h_done
                  · skip
                    refine Pt.h_yes (show (3 : Int) = a1 from (n29o1 a1 l0 u0 f0 f1 f4 f6 f8)) ?_
                    exact Pt.h_done
                · skip
                  refine Pt.h_fork (fun (f8 : (2 : Int) = a1) => ?_) (fun (f8 : ¬ (2 : Int) = a1) => ?_)
                  · skip
                    refine Pt.h_yes (show (4 : Int) = a2 from (n29o3 a2 l1 u1 f2 f3 f5 f7)) ?_
                    exact Pt.h_done
                  · skip
                    refine Pt.h_yes (show (4 : Int) = a2 from (n29o3 a2 l1 u1 f2 f3 f5 f7)) ?_
                    refine Pt.h_yes (show (3 : Int) = a1 from (n29o1 a1 l0 u0 f0 f1 f4 f6 f8)) ?_
                    exact Pt.h_done

theorem n29rest : auto n29T9 [(-9223372036854775808, 9223372036854775807), (-9223372036854775808, 9223372036854775807)] = n29R7 := by kernel_rfl
theorem n29all (a1 a2 : Int) (l0 : (-9223372036854775808 : Int) ≤ a1) (u0 : a1 ≤ (9223372036854775807 : Int)) (l1 : (-9223372036854775808 : Int) ≤ a2) (u1 : a2 ≤ (9223372036854775807 : Int))  : n29T9.holds [a1, a2] :=
  holds_auto n29rest (fits_cons l0 u0 (fits_cons l1 u1 fits_nil)) (n29t0 a1 a2 l0 u0 l1 u1 )

def n30T0 : Pt := (.no (.eq (.c 1) (.v 0)) (.fork (.eq (.c 3) (.v 1)) (.no (.eq (.c 2) (.v 0)) (.no (.eq (.c 4) (.v 1)) (.no (.eq (.c 3) (.v 0)) (.no (.eq (.c 2) (.v 1)) (.is (.wr .u8 (.v 0)) (.c 0) .done))))) (.no (.eq (.c 2) (.v 0)) (.fork (.eq (.c 4) (.v 1)) (.no (.eq (.c 3) (.v 0)) (.no (.eq (.c 2) (.v 1)) (.is (.wr .u8 (.v 0)) (.c 0) .done))) (.no (.eq (.c 3) (.v 0)) (.yes (.eq (.c 2) (.v 1)) (.is (.wr .u8 (.v 0)) (.c 0) .done)))))))

def n30T1 : Pt := (.fork (.eq (.c 1) (.v 0)) (.no (.eq (.c 2) (.v 0)) (.no (.eq (.c 4) (.v 1)) (.no (.eq (.c 3) (.v 0)) (.no (.eq (.c 3) (.v 1)) (.is (.wr .u8 (.v 0)) (.c 1) .done))))) (.no (.eq (.c 3) (.v 1)) (.fork (.eq (.c 2) (.v 0)) (.no (.eq (.c 4) (.v 1)) (.no (.eq (.c 3) (.v 0)) (.is (.wr .u8 (.v 0)) (.c 2) .done))) (.no (.eq (.c 4) (.v 1)) (.yes (.eq (.c 3) (.v 0)) (.is (.wr .u8 (.v 0)) (.c 3) .done))))))

def n30T2 : Pt := (.fork (.eq (.c 3) (.v 1)) (.fork (.eq (.c 2) (.v 0)) (.no (.eq (.c 4) (.v 1)) (.no (.eq (.c 3) (.v 0)) (.is (.wr .u8 (.v 0)) (.c 2) .done))) (.no (.eq (.c 4) (.v 1)) (.yes (.eq (.c 3) (.v 0)) (.is (.wr .u8 (.v 0)) (.c 3) .done)))) (.fork (.eq (.c 2) (.v 0)) (.yes (.eq (.c 4) (.v 1)) (.no (.eq (.c 3) (.v 0)) (.is (.wr .u8 (.v 0)) (.c 2) .done))) (.yes (.eq (.c 4) (.v 1)) (.yes (.eq (.c 3) (.v 0)) (.is (.wr .u8 (.v 0)) (.c 3) .done)))))

def n30T3 : Pt := (.fork (.eq (.c 1) (.v 0)) (.no (.eq (.c 2) (.v 0)) (.fork (.eq (.c 4) (.v 1)) (.no (.eq (.c 3) (.v 0)) (.no (.eq (.c 3) (.v 1)) (.is (.wr .u8 (.v 0)) (.c 1) .done))) (.no (.eq (.c 3) (.v 0)) (.yes (.eq (.c 3) (.v 1)) (.is (.wr .u8 (.v 0)) (.c 1) .done))))) n30T2)

def n30T4 : Pt := (.fork (.eq (.c 2) (.v 1)) n30T1 n30T3)

def n30T5 : Pt := (.fork (.eq (.c 0) (.v 0)) n30T0 n30T4)

def n30T6 : Pt := (.fork (.lt (.c 4) (.v 1)) .done n30T5)

def n30T7 : Pt := (.fork (.lt (.v 1) (.c 2)) .done n30T6)

def n30T8 : Pt := (.fork (.lt (.c 3) (.v 0)) .done n30T7)

def n30T9 : Pt := (.fork (.lt (.v 0) (.c 0)) .done n30T8)

def n30R0 : Pt := (.fork (.eq (.c 3) (.v 1)) (.fork (.eq (.c 2) (.v 0)) .done (.yes (.eq (.c 3) (.v 0)) .done)) (.fork (.eq (.c 2) (.v 0)) (.yes (.eq (.c 4) (.v 1)) .done) (.yes (.eq (.c 4) (.v 1)) (.yes (.eq (.c 3) (.v 0)) .done))))

def n30R1 : Pt := (.fork (.eq (.c 1) (.v 0)) (.fork (.eq (.c 4) (.v 1)) .done (.yes (.eq (.c 3) (.v 1)) .done)) n30R0)

def n30R2 : Pt := (.fork (.eq (.c 2) (.v 1)) (.fork (.eq (.c 1) (.v 0)) .done (.fork (.eq (.c 2) (.v 0)) .done (.yes (.eq (.c 3) (.v 0)) .done))) n30R1)

def n30R3 : Pt := (.fork (.eq (.c 0) (.v 0)) (.fork (.eq (.c 3) (.v 1)) .done (.fork (.eq (.c 4) (.v 1)) .done (.yes (.eq (.c 2) (.v 1)) .done))) n30R2)

def n30R4 : Pt := (.fork (.lt (.c 4) (.v 1)) .done n30R3)

def n30R5 : Pt := (.fork (.lt (.v 1) (.c 2)) .done n30R4)

def n30R6 : Pt := (.fork (.lt (.c 3) (.v 0)) .done n30R5)

def n30R7 : Pt := (.fork (.lt (.v 0) (.c 0)) .done n30R6)

theorem n30o0 (a2 : Int) (h0 : (-9223372036854775808 : Int) ≤ a2) (h1 : a2 ≤ (9223372036854775807 : Int)) (h2 : ¬ a2 < (2 : Int)) (h3 : ¬ (4 : Int) < a2) (h4 : ¬ (3 : Int) = a2) (h5 : ¬ (4 : Int) = a2) : (2 : Int) = a2 := by omega

theorem n30o1 (a1 : Int) (h0 : (-9223372036854775808 : Int) ≤ a1) (h1 : a1 ≤ (9223372036854775807 : Int)) (h2 : ¬ a1 < (0 : Int)) (h3 : ¬ (3 : Int) < a1) (h4 : ¬ (0 : Int) = a1) (h5 : ¬ (1 : Int) = a1) (h6 : ¬ (2 : Int) = a1) : (3 : Int) = a1 := by omega

theorem n30o2 (a2 : Int) (h0 : (-9223372036854775808 : Int) ≤ a2) (h1 : a2 ≤ (9223372036854775807 : Int)) (h2 : ¬ a2 < (2 : Int)) (h3 : ¬ (4 : Int) < a2) (h4 : ¬ (2 : Int) = a2) (h5 : ¬ (4 : Int) = a2) : (3 : Int) = a2 := by omega

theorem n30o3 (a2 : Int) (h0 : (-9223372036854775808 : Int) ≤ a2) (h1 : a2 ≤ (9223372036854775807 : Int)) (h2 : ¬ a2 < (2 : Int)) (h3 : ¬ (4 : Int) < a2) (h4 : ¬ (2 : Int) = a2) (h5 : ¬ (3 : Int) = a2) : (4 : Int) = a2 := by omega

theorem n30t0 (a1 a2 : Int) (l0 : (-9223372036854775808 : Int) ≤ a1) (u0 : a1 ≤ (9223372036854775807 : Int)) (l1 : (-9223372036854775808 : Int) ≤ a2) (u1 : a2 ≤ (9223372036854775807 : Int)) : n30R7.holds [a1, a2] := by
  refine Pt.h_fork (fun (f0 : a1 < (0 : Int)) => ?_) (fun (f0 : ¬ a1 < (0 : Int)) => ?_)
  · skip
    exact Pt.h_done
  · skip
    refine Pt.h_fork (fun (f1 : (3 : Int) < a1) => ?_) (fun (f1 : ¬ (3 : Int) < a1) => ?_)
    · skip
      exact Pt.h_done
    · skip
      refine Pt.h_fork (fun (f2 : a2 < (2 : Int)) => ?_) (fun (f2 : ¬ a2 < (2 : Int)) => ?_)
      · skip
        exact Pt.h_done
      · skip
        refine Pt.h_fork (fun (f3 : (4 : Int) < a2) => ?_) (fun (f3 : ¬ (4 : Int) < a2) => ?_)
        · skip
          exact Pt.h_done
        · skip
          refine Pt.h_fork (fun (f4 : (0 : Int) = a1) => ?_) (fun (f4 : ¬ (0 : Int) = a1) => ?_)
          · skip
            refine Pt.h_fork (fun (f5 : (3 : Int) = a2) => ?_) (fun (f5 : ¬ (3 : Int) = a2) => ?_)
            · skip
              exact Pt.h_done
            · skip
              refine Pt.h_fork (fun (f6 : (4 : Int) = a2) => ?_) (fun (f6 : ¬ (4 : Int) = a2) => ?_)
              · skip
                exact Pt.h_done
              · skip
                refine Pt.h_yes (show (2 : Int) = a2 from (n30o0 a2 l1 u1 f2 f3 f5 f6)) ?_
                exact Pt.h_done
          · skip
            refine Pt.h_fork (fun (f5 : (2 : Int) = a2) => ?_) (fun (f5 : ¬ (2 : Int) = a2) => ?_)
            · skip
              refine Pt.h_fork (fun (f6 : (1 : Int) = a1) => ?_) (fun (f6 : ¬ (1 : Int) = a1) => ?_)
              · skip
                exact Pt.h_done
              · skip
                refine Pt.h_fork (fun (f7 : (2 : Int) = a1) => ?_) (fun (f7 : ¬ (2 : Int) = a1) => ?_)
                · skip
                  exact Pt.h_done
                · skip
                  refine Pt.h_yes (show (3 : Int) = a1 from (n30o1 a1 l0 u0 f0 f1 f4 f6 f7)) ?_
                  exact Pt.h_done
            · skip
              refine Pt.h_fork (fun (f6 : (1 : Int) = a1) => ?_) (fun (f6 : ¬ (1 : Int) = a1) => ?_)
              · skip
                refine Pt.h_fork (fun (f7 : (4 : Int) = a2) => ?_) (fun (f7 : ¬ (4 : Int) = a2) => ?_)
                · skip
                  exact Pt.h_done
                · skip
                  refine Pt.h_yes (show (3 : Int) = a2 from (n30o2 a2 l1 u1 f2 f3 f5 f7)) ?_
                  exact Pt.h_done
              · skip
                refine Pt.h_fork (fun (f7 : (3 : Int) = a2) => ?_) (fun (f7 : ¬ (3 : Int) = a2) => ?_)
                · skip
                  refine Pt.h_fork (fun (f8 : (2 : Int) = a1) => ?_) (fun (f8 : ¬ (2 : Int) = a1) => ?_)
                  · skip
                    exact Pt.h_done
                  · skip
                    refine Pt.h_yes (show (3 : Int) = a1 from (n30o1 a1 l0 u0 f0 f1 f4 f6 f8)) ?_
                    exact Pt.h_done
                · skip
                  refine Pt.h_fork (fun (f8 : (2 : Int) = a1) => ?_) (fun (f8 : ¬ (2 : Int) = a1) => ?_)
                  · skip
                    refine Pt.h_yes (show (4 : Int) = a2 from (n30o3 a2 l1 u1 f2 f3 f5 f7)) ?_
                    exact Pt.h_done
                  · skip
                    refine Pt.h_yes (show (4 : Int) = a2 from (n30o3 a2 l1 u1 f2 f3 f5 f7)) ?_
                    refine Pt.h_yes (show (3 : Int) = a1 from (n30o1 a1 l0 u0 f0 f1 f4 f6 f8)) ?_
                    exact Pt.h_done

theorem n30rest : auto n30T9 [(-9223372036854775808, 9223372036854775807), (-9223372036854775808, 9223372036854775807)] = n30R7 := by kernel_rfl
theorem n30all (a1 a2 : Int) (l0 : (-9223372036854775808 : Int) ≤ a1) (u0 : a1 ≤ (9223372036854775807 : Int)) (l1 : (-9223372036854775808 : Int) ≤ a2) (u1 : a2 ≤ (9223372036854775807 : Int))  : n30T9.holds [a1, a2] :=
  holds_auto n30rest (fits_cons l0 u0 (fits_cons l1 u1 fits_nil)) (n30t0 a1 a2 l0 u0 l1 u1 )

end Go.Proofs.Ytfkbofbdonmpfaa.portsGone
