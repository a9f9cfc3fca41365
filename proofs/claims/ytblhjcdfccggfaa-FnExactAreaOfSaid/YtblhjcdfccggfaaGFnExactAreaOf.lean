/- The functions that the law FnExactAreaOf names, as given to its print: each with rounds enough for its arguments, and its contract. No condition. -/
import Derived.Test.YtblhjcdfccggfaaQT
import Derived.Test.YtblhjcdfccggfaaQP
namespace Go.Proofs.Ytblhjcdfccggfaa.PFnExactAreaOf
open Go.RowKit Go.Proofs.YtblhjcdfccggfaaW.PrintWords Go.Proofs.YtblhjcdfccggfaaW.PrintLast Go.Proofs.YtblhjcdfccggfaaW.PrintMore Go.Proofs.YtblhjcdfccggfaaM
set_option linter.unusedVariables false
def spec_AreaOf.f (l0 : List Int) (a1 : Int) (a2 : Int) : Option (Int × Bool) := Q.spec_AreaOf.f (2 * l0.length + 4000) l0 a1 a2
theorem spec_AreaOf.calls (A0 : Option Addr) (c0 : Nat) (l0 : List Int) (a1 : Int) (a2 : Int) (r1 : Int) (r2 : Bool) (w : World) (hr0 : Kd.C (Kd.int .i64) w A0 l0.length l0) (hc0 : l0.length ≤ c0) (h : spec_AreaOf.f l0 a1 a2 = some (r1, r2)) :
    Calls Try.prog 14 #[.slice A0 l0.length c0, .int .i64 a1, .int .i64 a2] w fun e w' => e = .returned (.tuple #[.int .i64 r1, .bool r2]) ∧ Below w.heap.size w w' :=
  Q.spec_AreaOf.calls (2 * l0.length + 4000) A0 c0 l0 a1 a2 r1 r2 w hr0 hc0 h
def impl_AreaOf.f (l0 : List Int) (a1 : Int) (a2 : Int) : Option (Int × Bool) := Q.impl_AreaOf.f (2 * l0.length + 4000) l0 a1 a2
theorem impl_AreaOf.calls (A0 : Option Addr) (c0 : Nat) (l0 : List Int) (a1 : Int) (a2 : Int) (r1 : Int) (r2 : Bool) (w : World) (hr0 : Kd.C (Kd.int .i64) w A0 l0.length l0) (hc0 : l0.length ≤ c0) (h : impl_AreaOf.f l0 a1 a2 = some (r1, r2)) :
    Calls Try.prog 15 #[.slice A0 l0.length c0, .int .i64 a1, .int .i64 a2] w fun e w' => e = .returned (.tuple #[.int .i64 r1, .bool r2]) ∧ Below w.heap.size w w' :=
  Q.impl_AreaOf.calls (2 * l0.length + 4000) A0 c0 l0 a1 a2 r1 r2 w hr0 hc0 h
end Go.Proofs.Ytblhjcdfccggfaa.PFnExactAreaOf
