/- The functions that the law FnExactIsBalancedLoop names, as given to its print: each with rounds enough for its arguments, and its contract. No condition. -/
import Derived.Test.YtajphpfbihilmaaQ8
import Derived.Test.YtajphpfbihilmaaQW
namespace Go.Proofs.Ytajphpfbihilmaa.PFnExactIsBalancedLoop
open Go.RowKit Go.Proofs.YtajphpfbihilmaaW.PrintWords Go.Proofs.YtajphpfbihilmaaW.PrintLast Go.Proofs.YtajphpfbihilmaaW.PrintMore Go.Proofs.YtajphpfbihilmaaM
set_option linter.unusedVariables false
def spec_IsBalancedLoop.f (l0 : List Int) : Option (Bool × Bool) := Q.spec_IsBalancedLoop.f (2 * l0.length + 1000) l0
theorem spec_IsBalancedLoop.calls (A0 : Option Addr) (c0 : Nat) (l0 : List Int) (r1 : Bool) (r2 : Bool) (w : World) (hr0 : Kd.C (Kd.int .i64) w A0 l0.length l0) (hc0 : l0.length ≤ c0) (h : spec_IsBalancedLoop.f l0 = some (r1, r2)) :
    Calls Try.prog 18 #[.slice A0 l0.length c0] w fun e w' => e = .returned (.tuple #[.bool r1, .bool r2]) ∧ Below w.heap.size w w' :=
  Q.spec_IsBalancedLoop.calls (2 * l0.length + 1000) A0 c0 l0 r1 r2 w hr0 hc0 h
def impl_IsBalancedLoop.f (l0 : List Int) : Option (Bool × Bool) := Q.impl_IsBalancedLoop.f (2 * l0.length + 1000) l0
theorem impl_IsBalancedLoop.calls (A0 : Option Addr) (c0 : Nat) (l0 : List Int) (r1 : Bool) (r2 : Bool) (w : World) (hr0 : Kd.C (Kd.int .i64) w A0 l0.length l0) (hc0 : l0.length ≤ c0) (h : impl_IsBalancedLoop.f l0 = some (r1, r2)) :
    Calls Try.prog 20 #[.slice A0 l0.length c0] w fun e w' => e = .returned (.tuple #[.bool r1, .bool r2]) ∧ Below w.heap.size w w' :=
  Q.impl_IsBalancedLoop.calls (2 * l0.length + 1000) A0 c0 l0 r1 r2 w hr0 hc0 h
end Go.Proofs.Ytajphpfbihilmaa.PFnExactIsBalancedLoop
