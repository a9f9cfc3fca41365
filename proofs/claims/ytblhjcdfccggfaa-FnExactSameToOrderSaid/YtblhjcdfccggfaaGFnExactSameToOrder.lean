/- The functions that the law FnExactSameToOrder names, as given to its print: each with rounds enough for its arguments, and its contract. No condition. -/
import Derived.Test.YtblhjcdfccggfaaQG
import Derived.Test.YtblhjcdfccggfaaQS
namespace Go.Proofs.Ytblhjcdfccggfaa.PFnExactSameToOrder
open Go.RowKit Go.Proofs.YtblhjcdfccggfaaW.PrintWords Go.Proofs.YtblhjcdfccggfaaW.PrintLast Go.Proofs.YtblhjcdfccggfaaW.PrintMore Go.Proofs.YtblhjcdfccggfaaM
set_option linter.unusedVariables false
def spec_SameToOrder.f (l0 : List Int) (l1 : List Int) (a2 : Int) : Option (Bool × Bool) := Q.spec_SameToOrder.f (2 * l0.length + 2 * l1.length + 4000) l0 l1 a2
theorem spec_SameToOrder.calls (A0 : Option Addr) (c0 : Nat) (l0 : List Int) (A1 : Option Addr) (c1 : Nat) (l1 : List Int) (a2 : Int) (r1 : Bool) (r2 : Bool) (w : World) (hr0 : Kd.C (Kd.int .i64) w A0 l0.length l0) (hc0 : l0.length ≤ c0) (hr1 : Kd.C (Kd.int .i64) w A1 l1.length l1) (hc1 : l1.length ≤ c1) (h : spec_SameToOrder.f l0 l1 a2 = some (r1, r2)) :
    Calls Try.prog 16 #[.slice A0 l0.length c0, .slice A1 l1.length c1, .int .i64 a2] w fun e w' => e = .returned (.tuple #[.bool r1, .bool r2]) ∧ Below w.heap.size w w' :=
  Q.spec_SameToOrder.calls (2 * l0.length + 2 * l1.length + 4000) A0 c0 l0 A1 c1 l1 a2 r1 r2 w hr0 hc0 hr1 hc1 h
def impl_SameToOrder.f (l0 : List Int) (l1 : List Int) (a2 : Int) : Option (Bool × Bool) := Q.impl_SameToOrder.f (2 * l0.length + 2 * l1.length + 4000) l0 l1 a2
theorem impl_SameToOrder.calls (A0 : Option Addr) (c0 : Nat) (l0 : List Int) (A1 : Option Addr) (c1 : Nat) (l1 : List Int) (a2 : Int) (r1 : Bool) (r2 : Bool) (w : World) (hr0 : Kd.C (Kd.int .i64) w A0 l0.length l0) (hc0 : l0.length ≤ c0) (hr1 : Kd.C (Kd.int .i64) w A1 l1.length l1) (hc1 : l1.length ≤ c1) (h : impl_SameToOrder.f l0 l1 a2 = some (r1, r2)) :
    Calls Try.prog 17 #[.slice A0 l0.length c0, .slice A1 l1.length c1, .int .i64 a2] w fun e w' => e = .returned (.tuple #[.bool r1, .bool r2]) ∧ Below w.heap.size w w' :=
  Q.impl_SameToOrder.calls (2 * l0.length + 2 * l1.length + 4000) A0 c0 l0 A1 c1 l1 a2 r1 r2 w hr0 hc0 hr1 hc1 h
end Go.Proofs.Ytblhjcdfccggfaa.PFnExactSameToOrder
