/- The functions that the law FnExactOrderOf names, as given to its print: each with rounds enough for its arguments, and its contract. No condition. -/
import Derived.Test.YtblhjcdfccggfaaQO
import Derived.Test.YtblhjcdfccggfaaQR
namespace Go.Proofs.Ytblhjcdfccggfaa.PFnExactOrderOf
open Go.RowKit Go.Proofs.YtblhjcdfccggfaaW.PrintWords Go.Proofs.YtblhjcdfccggfaaW.PrintLast Go.Proofs.YtblhjcdfccggfaaW.PrintMore Go.Proofs.YtblhjcdfccggfaaM
set_option linter.unusedVariables false
def spec_OrderOf.f (l0 : List Int) : Option (Int × Bool) := Q.spec_OrderOf.f (2 * l0.length + 4000) l0
theorem spec_OrderOf.calls (A0 : Option Addr) (c0 : Nat) (l0 : List Int) (r1 : Int) (r2 : Bool) (w : World) (hr0 : Kd.C (Kd.int .i64) w A0 l0.length l0) (hc0 : l0.length ≤ c0) (h : spec_OrderOf.f l0 = some (r1, r2)) :
    Calls Try.prog 27 #[.slice A0 l0.length c0] w fun e w' => e = .returned (.tuple #[.int .i64 r1, .bool r2]) ∧ Below w.heap.size w w' :=
  Q.spec_OrderOf.calls (2 * l0.length + 4000) A0 c0 l0 r1 r2 w hr0 hc0 h
def impl_OrderOf.f (l0 : List Int) : Option (Int × Bool) := Q.impl_OrderOf.f (2 * l0.length + 4000) l0
theorem impl_OrderOf.calls (A0 : Option Addr) (c0 : Nat) (l0 : List Int) (r1 : Int) (r2 : Bool) (w : World) (hr0 : Kd.C (Kd.int .i64) w A0 l0.length l0) (hc0 : l0.length ≤ c0) (h : impl_OrderOf.f l0 = some (r1, r2)) :
    Calls Try.prog 28 #[.slice A0 l0.length c0] w fun e w' => e = .returned (.tuple #[.int .i64 r1, .bool r2]) ∧ Below w.heap.size w w' :=
  Q.impl_OrderOf.calls (2 * l0.length + 4000) A0 c0 l0 r1 r2 w hr0 hc0 h
end Go.Proofs.Ytblhjcdfccggfaa.PFnExactOrderOf
