/- The functions that the law FnExactDualFamily names, as given to its print: each with rounds enough for its arguments, and its contract. No condition. -/
import Derived.Test.YtncdgimmalifjaaQB
namespace Go.Proofs.Ytncdgimmalifjaa.PFnExactDualFamily
open Go.RowKit Go.Proofs.YtncdgimmalifjaaW.PrintWords Go.Proofs.YtncdgimmalifjaaW.PrintLast Go.Proofs.YtncdgimmalifjaaW.PrintMore Go.Proofs.YtncdgimmalifjaaM
set_option linter.unusedVariables false
def spec_DualFamily.f (l0_0 : List Int) (a1 : Int) : Option (List Int × Bool) := Q.spec_DualFamily.f (l0_0.length*(l0_0.length+2)+l0_0.length+5000) l0_0 a1
theorem spec_DualFamily.calls (A0_0 : Option Addr) (c0_0 : Nat) (l0_0 : List Int) (a1 : Int) (r1 : List Int) (r2 : Bool) (w : World) (hr0_0 : Kd.C (Kd.int .i64) w A0_0 l0_0.length l0_0) (hc0_0 : l0_0.length ≤ c0_0) (h : spec_DualFamily.f l0_0 a1 = some (r1, r2)) :
    Calls Try.prog 33 #[.agg #[.slice A0_0 l0_0.length c0_0], .int .i64 a1] w fun e w' => ∃ v0_ : Value, e = .returned (.tuple #[.agg #[v0_], .bool r2]) ∧ Kd.R (Kd.int .i64) 3 w' w.heap.size (fun _ => True) v0_ r1 ∧ Below w.heap.size w w' :=
  Q.spec_DualFamily.calls (l0_0.length*(l0_0.length+2)+l0_0.length+5000) A0_0 c0_0 l0_0 a1 r1 r2 w hr0_0 hc0_0 h
def impl_DualFamily.f (l0_0 : List Int) (a1 : Int) : Option (List Int × Bool) := Q.impl_DualFamily.f (l0_0.length*(l0_0.length+2)+l0_0.length+5000) l0_0 a1
theorem impl_DualFamily.calls (A0_0 : Option Addr) (c0_0 : Nat) (l0_0 : List Int) (a1 : Int) (r1 : List Int) (r2 : Bool) (w : World) (hr0_0 : Kd.C (Kd.int .i64) w A0_0 l0_0.length l0_0) (hc0_0 : l0_0.length ≤ c0_0) (h : impl_DualFamily.f l0_0 a1 = some (r1, r2)) :
    Calls Try.prog 34 #[.agg #[.slice A0_0 l0_0.length c0_0], .int .i64 a1] w fun e w' => ∃ v0_ : Value, e = .returned (.tuple #[.agg #[v0_], .bool r2]) ∧ Kd.R (Kd.int .i64) 3 w' w.heap.size (fun _ => True) v0_ r1 ∧ Below w.heap.size w w' :=
  Q.impl_DualFamily.calls (l0_0.length*(l0_0.length+2)+l0_0.length+5000) A0_0 c0_0 l0_0 a1 r1 r2 w hr0_0 hc0_0 h
end Go.Proofs.Ytncdgimmalifjaa.PFnExactDualFamily
