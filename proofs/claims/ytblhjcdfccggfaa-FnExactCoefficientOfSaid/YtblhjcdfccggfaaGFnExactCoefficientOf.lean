/- The functions that the law FnExactCoefficientOf names, as given to its print: each with rounds enough for its arguments, and its contract. No condition. -/
import Derived.Test.YtblhjcdfccggfaaQW
import Derived.Test.YtblhjcdfccggfaaQE
namespace Go.Proofs.Ytblhjcdfccggfaa.PFnExactCoefficientOf
open Go.RowKit Go.Proofs.YtblhjcdfccggfaaW.PrintWords Go.Proofs.YtblhjcdfccggfaaW.PrintLast Go.Proofs.YtblhjcdfccggfaaW.PrintMore Go.Proofs.YtblhjcdfccggfaaM
set_option linter.unusedVariables false
def spec_CoefficientOf.f (l0 : List Int) (l1 : List Int) : Option (Int × Bool) := Q.spec_CoefficientOf.f (2 * l0.length + l1.length + 4000) l0 l1
theorem spec_CoefficientOf.calls (A0 : Option Addr) (c0 : Nat) (l0 : List Int) (A1 : Option Addr) (c1 : Nat) (l1 : List Int) (r1 : Int) (r2 : Bool) (w : World) (hr0 : Kd.C (Kd.int .i64) w A0 l0.length l0) (hc0 : l0.length ≤ c0) (hr1 : Kd.C (Kd.int .i64) w A1 l1.length l1) (hc1 : l1.length ≤ c1) (h : spec_CoefficientOf.f l0 l1 = some (r1, r2)) :
    Calls Try.prog 18 #[.slice A0 l0.length c0, .slice A1 l1.length c1] w fun e w' => e = .returned (.tuple #[.int .i64 r1, .bool r2]) ∧ Below w.heap.size w w' :=
  Q.spec_CoefficientOf.calls (2 * l0.length + l1.length + 4000) A0 c0 l0 A1 c1 l1 r1 r2 w hr0 hc0 hr1 hc1 h
def impl_CoefficientOf.f (l0 : List Int) (l1 : List Int) : Option (Int × Bool) := Q.impl_CoefficientOf.f (2 * l0.length + l1.length + 4000) l0 l1
theorem impl_CoefficientOf.calls (A0 : Option Addr) (c0 : Nat) (l0 : List Int) (A1 : Option Addr) (c1 : Nat) (l1 : List Int) (r1 : Int) (r2 : Bool) (w : World) (hr0 : Kd.C (Kd.int .i64) w A0 l0.length l0) (hc0 : l0.length ≤ c0) (hr1 : Kd.C (Kd.int .i64) w A1 l1.length l1) (hc1 : l1.length ≤ c1) (h : impl_CoefficientOf.f l0 l1 = some (r1, r2)) :
    Calls Try.prog 19 #[.slice A0 l0.length c0, .slice A1 l1.length c1] w fun e w' => e = .returned (.tuple #[.int .i64 r1, .bool r2]) ∧ Below w.heap.size w w' :=
  Q.impl_CoefficientOf.calls (2 * l0.length + l1.length + 4000) A0 c0 l0 A1 c1 l1 r1 r2 w hr0 hc0 hr1 hc1 h
end Go.Proofs.Ytblhjcdfccggfaa.PFnExactCoefficientOf
