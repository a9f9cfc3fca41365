/- The functions that the law FnExactIsWordFor names, as given to its print: each with rounds enough for its arguments, and its contract. No condition. -/
import Derived.Test.YtlbhfbanbdahdaaQB
namespace Go.Proofs.Ytlbhfbanbdahdaa.PFnExactIsWordFor
open Go.RowKit Go.Proofs.YtlbhfbanbdahdaaW.PrintWords Go.Proofs.YtlbhfbanbdahdaaW.PrintLast Go.Proofs.YtlbhfbanbdahdaaW.PrintMore Go.Proofs.YtlbhfbanbdahdaaM
set_option linter.unusedVariables false
def spec_IsWordFor.f (l0 : List Int) (l1_0 : List Int) : Option (Bool × Bool) := Q.spec_IsWordFor.f (2*l0.length+l1_0.length*(l1_0.length+2)+l1_0.length+1000) l0 l1_0
theorem spec_IsWordFor.calls (A0 : Option Addr) (c0 : Nat) (l0 : List Int) (A1_0 : Option Addr) (c1_0 : Nat) (l1_0 : List Int) (r1 : Bool) (r2 : Bool) (w : World) (hr0 : Kd.C (Kd.int .i64) w A0 l0.length l0) (hc0 : l0.length ≤ c0) (hr1_0 : Kd.C (Kd.int .i64) w A1_0 l1_0.length l1_0) (hc1_0 : l1_0.length ≤ c1_0) (h : spec_IsWordFor.f l0 l1_0 = some (r1, r2)) :
    Calls Try.prog 21 #[.slice A0 l0.length c0, .agg #[.slice A1_0 l1_0.length c1_0]] w fun e w' => e = .returned (.tuple #[.bool r1, .bool r2]) ∧ Below w.heap.size w w' :=
  Q.spec_IsWordFor.calls (2*l0.length+l1_0.length*(l1_0.length+2)+l1_0.length+1000) A0 c0 l0 A1_0 c1_0 l1_0 r1 r2 w hr0 hc0 hr1_0 hc1_0 h
def impl_IsWordFor.f (l0 : List Int) (l1_0 : List Int) : Option (Bool × Bool) := Q.impl_IsWordFor.f (2*l0.length+l1_0.length*(l1_0.length+2)+l1_0.length+1000) l0 l1_0
theorem impl_IsWordFor.calls (A0 : Option Addr) (c0 : Nat) (l0 : List Int) (A1_0 : Option Addr) (c1_0 : Nat) (l1_0 : List Int) (r1 : Bool) (r2 : Bool) (w : World) (hr0 : Kd.C (Kd.int .i64) w A0 l0.length l0) (hc0 : l0.length ≤ c0) (hr1_0 : Kd.C (Kd.int .i64) w A1_0 l1_0.length l1_0) (hc1_0 : l1_0.length ≤ c1_0) (h : impl_IsWordFor.f l0 l1_0 = some (r1, r2)) :
    Calls Try.prog 23 #[.slice A0 l0.length c0, .agg #[.slice A1_0 l1_0.length c1_0]] w fun e w' => e = .returned (.tuple #[.bool r1, .bool r2]) ∧ Below w.heap.size w w' :=
  Q.impl_IsWordFor.calls (2*l0.length+l1_0.length*(l1_0.length+2)+l1_0.length+1000) A0 c0 l0 A1_0 c1_0 l1_0 r1 r2 w hr0 hc0 hr1_0 hc1_0 h
end Go.Proofs.Ytlbhfbanbdahdaa.PFnExactIsWordFor
