/- The functions that the law FnExactCanKeep names, as given to its print: each with rounds enough for its arguments, and its contract. No condition. -/
import Derived.Test.YtbnhnmcbaacdiaaQS
import Derived.Test.YtbnhnmcbaacdiaaQG
namespace Go.Proofs.Ytbnhnmcbaacdiaa.PFnExactCanKeep
open Go.RowKit Go.Proofs.YtbnhnmcbaacdiaaW.PrintWords Go.Proofs.YtbnhnmcbaacdiaaW.PrintLast Go.Proofs.YtbnhnmcbaacdiaaW.PrintMore Go.Proofs.YtbnhnmcbaacdiaaM
set_option linter.unusedVariables false
def spec_CanKeep.f (l0 : List Int) (a1 : Int) (a2 : Int) : Option (Bool × Bool) := Q.spec_CanKeep.f (2 * l0.length + 1000) l0 a1 a2
theorem spec_CanKeep.calls (A0 : Option Addr) (c0 : Nat) (l0 : List Int) (a1 : Int) (a2 : Int) (r1 : Bool) (r2 : Bool) (w : World) (hr0 : Kd.C (Kd.int .i64) w A0 l0.length l0) (hc0 : l0.length ≤ c0) (h : spec_CanKeep.f l0 a1 a2 = some (r1, r2)) :
    Calls Try.prog 16 #[.slice A0 l0.length c0, .int .i64 a1, .int .i64 a2] w fun e w' => e = .returned (.tuple #[.bool r1, .bool r2]) ∧ Below w.heap.size w w' :=
  Q.spec_CanKeep.calls (2 * l0.length + 1000) A0 c0 l0 a1 a2 r1 r2 w hr0 hc0 h
def impl_CanKeep.f (l0 : List Int) (a1 : Int) (a2 : Int) : Option (Bool × Bool) := Q.impl_CanKeep.f (2 * l0.length + 1000) l0 a1 a2
theorem impl_CanKeep.calls (A0 : Option Addr) (c0 : Nat) (l0 : List Int) (a1 : Int) (a2 : Int) (r1 : Bool) (r2 : Bool) (w : World) (hr0 : Kd.C (Kd.int .i64) w A0 l0.length l0) (hc0 : l0.length ≤ c0) (h : impl_CanKeep.f l0 a1 a2 = some (r1, r2)) :
    Calls Try.prog 17 #[.slice A0 l0.length c0, .int .i64 a1, .int .i64 a2] w fun e w' => e = .returned (.tuple #[.bool r1, .bool r2]) ∧ Below w.heap.size w w' :=
  Q.impl_CanKeep.calls (2 * l0.length + 1000) A0 c0 l0 a1 a2 r1 r2 w hr0 hc0 h
end Go.Proofs.Ytbnhnmcbaacdiaa.PFnExactCanKeep
