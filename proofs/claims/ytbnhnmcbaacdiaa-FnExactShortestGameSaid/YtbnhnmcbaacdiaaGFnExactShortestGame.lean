/- The functions that the law FnExactShortestGame names, as given to its print: each with rounds enough for its arguments, and its contract. No condition. -/
import Derived.Test.YtbnhnmcbaacdiaaQS
import Derived.Test.YtbnhnmcbaacdiaaQG
namespace Go.Proofs.Ytbnhnmcbaacdiaa.PFnExactShortestGame
open Go.RowKit Go.Proofs.YtbnhnmcbaacdiaaW.PrintWords Go.Proofs.YtbnhnmcbaacdiaaW.PrintLast Go.Proofs.YtbnhnmcbaacdiaaW.PrintMore Go.Proofs.YtbnhnmcbaacdiaaM
set_option linter.unusedVariables false
def spec_ShortestGame.f (l0 : List Int) (a1 : Int) (a2 : Int) : Option (Int × Bool) := Q.spec_ShortestGame.f (2 * l0.length + 1000) l0 a1 a2
theorem spec_ShortestGame.calls (A0 : Option Addr) (c0 : Nat) (l0 : List Int) (a1 : Int) (a2 : Int) (r1 : Int) (r2 : Bool) (w : World) (hr0 : Kd.C (Kd.int .i64) w A0 l0.length l0) (hc0 : l0.length ≤ c0) (h : spec_ShortestGame.f l0 a1 a2 = some (r1, r2)) :
    Calls Try.prog 24 #[.slice A0 l0.length c0, .int .i64 a1, .int .i64 a2] w fun e w' => e = .returned (.tuple #[.int .i64 r1, .bool r2]) ∧ Below w.heap.size w w' :=
  Q.spec_ShortestGame.calls (2 * l0.length + 1000) A0 c0 l0 a1 a2 r1 r2 w hr0 hc0 h
def impl_ShortestGame.f (l0 : List Int) (a1 : Int) (a2 : Int) : Option (Int × Bool) := Q.impl_ShortestGame.f (2 * l0.length + 1000) l0 a1 a2
theorem impl_ShortestGame.calls (A0 : Option Addr) (c0 : Nat) (l0 : List Int) (a1 : Int) (a2 : Int) (r1 : Int) (r2 : Bool) (w : World) (hr0 : Kd.C (Kd.int .i64) w A0 l0.length l0) (hc0 : l0.length ≤ c0) (h : impl_ShortestGame.f l0 a1 a2 = some (r1, r2)) :
    Calls Try.prog 25 #[.slice A0 l0.length c0, .int .i64 a1, .int .i64 a2] w fun e w' => e = .returned (.tuple #[.int .i64 r1, .bool r2]) ∧ Below w.heap.size w w' :=
  Q.impl_ShortestGame.calls (2 * l0.length + 1000) A0 c0 l0 a1 a2 r1 r2 w hr0 hc0 h
end Go.Proofs.Ytbnhnmcbaacdiaa.PFnExactShortestGame
