/- The functions that the law FnExactPlayNails names, as given to its print: each with rounds enough for its arguments, and its contract. No condition. -/
import Derived.Test.YtbnhnmcbaacdiaaQS
import Derived.Test.YtbnhnmcbaacdiaaQG
namespace Go.Proofs.Ytbnhnmcbaacdiaa.PFnExactPlayNails
open Go.RowKit Go.Proofs.YtbnhnmcbaacdiaaW.PrintWords Go.Proofs.YtbnhnmcbaacdiaaW.PrintLast Go.Proofs.YtbnhnmcbaacdiaaW.PrintMore Go.Proofs.YtbnhnmcbaacdiaaM
set_option linter.unusedVariables false
def spec_PlayNails.f (l0 : List Int) (a1 : Int) (a2 : Int) (l3 : List Int) : Option (Int × Int × Bool) := Q.spec_PlayNails.f (2 * l0.length + l3.length + 1000) l0 a1 a2 l3
theorem spec_PlayNails.calls (A0 : Option Addr) (c0 : Nat) (l0 : List Int) (a1 : Int) (a2 : Int) (A3 : Option Addr) (c3 : Nat) (l3 : List Int) (r1 : Int) (r2 : Int) (r3 : Bool) (w : World) (hr0 : Kd.C (Kd.int .i64) w A0 l0.length l0) (hc0 : l0.length ≤ c0) (hr3 : Kd.C (Kd.int .i64) w A3 l3.length l3) (hc3 : l3.length ≤ c3) (h : spec_PlayNails.f l0 a1 a2 l3 = some (r1, r2, r3)) :
    Calls Try.prog 10 #[.slice A0 l0.length c0, .int .i64 a1, .int .i64 a2, .slice A3 l3.length c3] w fun e w' => e = .returned (.tuple #[.int .i64 r1, .int .i64 r2, .bool r3]) ∧ Below w.heap.size w w' :=
  Q.spec_PlayNails.calls (2 * l0.length + l3.length + 1000) A0 c0 l0 a1 a2 A3 c3 l3 r1 r2 r3 w hr0 hc0 hr3 hc3 h
def impl_PlayNails.f (l0 : List Int) (a1 : Int) (a2 : Int) (l3 : List Int) : Option (Int × Int × Bool) := Q.impl_PlayNails.f (2 * l0.length + l3.length + 1000) l0 a1 a2 l3
theorem impl_PlayNails.calls (A0 : Option Addr) (c0 : Nat) (l0 : List Int) (a1 : Int) (a2 : Int) (A3 : Option Addr) (c3 : Nat) (l3 : List Int) (r1 : Int) (r2 : Int) (r3 : Bool) (w : World) (hr0 : Kd.C (Kd.int .i64) w A0 l0.length l0) (hc0 : l0.length ≤ c0) (hr3 : Kd.C (Kd.int .i64) w A3 l3.length l3) (hc3 : l3.length ≤ c3) (h : impl_PlayNails.f l0 a1 a2 l3 = some (r1, r2, r3)) :
    Calls Try.prog 12 #[.slice A0 l0.length c0, .int .i64 a1, .int .i64 a2, .slice A3 l3.length c3] w fun e w' => e = .returned (.tuple #[.int .i64 r1, .int .i64 r2, .bool r3]) ∧ Below w.heap.size w w' :=
  Q.impl_PlayNails.calls (2 * l0.length + l3.length + 1000) A0 c0 l0 a1 a2 A3 c3 l3 r1 r2 r3 w hr0 hc0 hr3 hc3 h
end Go.Proofs.Ytbnhnmcbaacdiaa.PFnExactPlayNails
