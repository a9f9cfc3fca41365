/- The functions that the law FnExactThresholdFamily names, as given to its print: each with rounds enough for its arguments, and its contract. No condition. -/
import Derived.Test.YtncdgimmalifjaaQC
import Derived.Test.YtncdgimmalifjaaQT
namespace Go.Proofs.Ytncdgimmalifjaa.PFnExactThresholdFamily
open Go.RowKit Go.Proofs.YtncdgimmalifjaaW.PrintWords Go.Proofs.YtncdgimmalifjaaW.PrintLast Go.Proofs.YtncdgimmalifjaaW.PrintMore Go.Proofs.YtncdgimmalifjaaM
set_option linter.unusedVariables false
def spec_ThresholdFamily.f (a0 : Int) (a1 : Int) : Option (List Int × Bool) := Q.spec_ThresholdFamily.f (6000) a0 a1
theorem spec_ThresholdFamily.calls (a0 : Int) (a1 : Int) (r1 : List Int) (r2 : Bool) (w : World)  (h : spec_ThresholdFamily.f a0 a1 = some (r1, r2)) :
    Calls Try.prog 19 #[.int .i64 a0, .int .i64 a1] w fun e w' => ∃ v0_ : Value, e = .returned (.tuple #[.agg #[v0_], .bool r2]) ∧ Kd.R (Kd.int .i64) 3 w' w.heap.size (fun _ => True) v0_ r1 ∧ Below w.heap.size w w' :=
  Q.spec_ThresholdFamily.calls (6000) a0 a1 r1 r2 w h
def impl_ThresholdFamily.f (a0 : Int) (a1 : Int) : Option (List Int × Bool) := Q.impl_ThresholdFamily.f (6000) a0 a1
theorem impl_ThresholdFamily.calls (a0 : Int) (a1 : Int) (r1 : List Int) (r2 : Bool) (w : World)  (h : impl_ThresholdFamily.f a0 a1 = some (r1, r2)) :
    Calls Try.prog 20 #[.int .i64 a0, .int .i64 a1] w fun e w' => ∃ v0_ : Value, e = .returned (.tuple #[.agg #[v0_], .bool r2]) ∧ Kd.R (Kd.int .i64) 3 w' w.heap.size (fun _ => True) v0_ r1 ∧ Below w.heap.size w w' :=
  Q.impl_ThresholdFamily.calls (6000) a0 a1 r1 r2 w h
end Go.Proofs.Ytncdgimmalifjaa.PFnExactThresholdFamily
