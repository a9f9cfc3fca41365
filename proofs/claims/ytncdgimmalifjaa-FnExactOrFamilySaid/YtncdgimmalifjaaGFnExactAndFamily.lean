/- The functions that the law FnExactAndFamily names, as given to its print: each with rounds enough for its arguments, and its contract. No condition. -/
import Derived.Test.YtncdgimmalifjaaQF
namespace Go.Proofs.Ytncdgimmalifjaa.PFnExactAndFamily
open Go.RowKit Go.Proofs.YtncdgimmalifjaaW.PrintWords Go.Proofs.YtncdgimmalifjaaW.PrintLast Go.Proofs.YtncdgimmalifjaaW.PrintMore Go.Proofs.YtncdgimmalifjaaM
set_option linter.unusedVariables false
def spec_AndFamily.f (l0_0 : List Int) (l1_0 : List Int) : Option (List Int × Bool) := Q.spec_AndFamily.f ((l0_0.length + 3) * (l0_0.length + 3) + (l1_0.length + 3) * (l1_0.length + 3) + 10000) l0_0 l1_0
theorem spec_AndFamily.calls (A0_0 : Option Addr) (c0_0 : Nat) (l0_0 : List Int) (A1_0 : Option Addr) (c1_0 : Nat) (l1_0 : List Int) (r1 : List Int) (r2 : Bool) (w : World) (hr0_0 : Kd.C (Kd.int .i64) w A0_0 l0_0.length l0_0) (hc0_0 : l0_0.length ≤ c0_0) (hr1_0 : Kd.C (Kd.int .i64) w A1_0 l1_0.length l1_0) (hc1_0 : l1_0.length ≤ c1_0) (h : spec_AndFamily.f l0_0 l1_0 = some (r1, r2)) :
    Calls Try.prog 27 #[.agg #[.slice A0_0 l0_0.length c0_0], .agg #[.slice A1_0 l1_0.length c1_0]] w fun e w' => ∃ v0_ : Value, e = .returned (.tuple #[.agg #[v0_], .bool r2]) ∧ Kd.R (Kd.int .i64) 3 w' w.heap.size (fun _ => True) v0_ r1 ∧ Below w.heap.size w w' :=
  Q.spec_AndFamily.calls ((l0_0.length + 3) * (l0_0.length + 3) + (l1_0.length + 3) * (l1_0.length + 3) + 10000) A0_0 c0_0 l0_0 A1_0 c1_0 l1_0 r1 r2 w hr0_0 hc0_0 hr1_0 hc1_0 h
def impl_AndFamily.f (l0_0 : List Int) (l1_0 : List Int) : Option (List Int × Bool) := Q.impl_AndFamily.f ((l0_0.length + 3) * (l0_0.length + 3) + (l1_0.length + 3) * (l1_0.length + 3) + 10000) l0_0 l1_0
theorem impl_AndFamily.calls (A0_0 : Option Addr) (c0_0 : Nat) (l0_0 : List Int) (A1_0 : Option Addr) (c1_0 : Nat) (l1_0 : List Int) (r1 : List Int) (r2 : Bool) (w : World) (hr0_0 : Kd.C (Kd.int .i64) w A0_0 l0_0.length l0_0) (hc0_0 : l0_0.length ≤ c0_0) (hr1_0 : Kd.C (Kd.int .i64) w A1_0 l1_0.length l1_0) (hc1_0 : l1_0.length ≤ c1_0) (h : impl_AndFamily.f l0_0 l1_0 = some (r1, r2)) :
    Calls Try.prog 28 #[.agg #[.slice A0_0 l0_0.length c0_0], .agg #[.slice A1_0 l1_0.length c1_0]] w fun e w' => ∃ v0_ : Value, e = .returned (.tuple #[.agg #[v0_], .bool r2]) ∧ Kd.R (Kd.int .i64) 3 w' w.heap.size (fun _ => True) v0_ r1 ∧ Below w.heap.size w w' :=
  Q.impl_AndFamily.calls ((l0_0.length + 3) * (l0_0.length + 3) + (l1_0.length + 3) * (l1_0.length + 3) + 10000) A0_0 c0_0 l0_0 A1_0 c1_0 l1_0 r1 r2 w hr0_0 hc0_0 hr1_0 hc1_0 h
end Go.Proofs.Ytncdgimmalifjaa.PFnExactAndFamily
