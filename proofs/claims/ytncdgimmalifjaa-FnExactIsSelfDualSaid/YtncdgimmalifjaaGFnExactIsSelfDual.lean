/- The functions that the law FnExactIsSelfDual names, as given to its print: each with rounds enough for its arguments, and its contract. No condition. -/
import Derived.Test.YtncdgimmalifjaaQB
import Derived.Test.YtncdgimmalifjaaQC
namespace Go.Proofs.Ytncdgimmalifjaa.PFnExactIsSelfDual
open Go.RowKit Go.Proofs.YtncdgimmalifjaaW.PrintWords Go.Proofs.YtncdgimmalifjaaW.PrintLast Go.Proofs.YtncdgimmalifjaaW.PrintMore Go.Proofs.YtncdgimmalifjaaM
set_option linter.unusedVariables false
def spec_l5Within.f (l0_0 : List Int) (a1 : Int) : Option (Bool) := Q.spec_l5Within.f (l0_0.length*(l0_0.length+2)+l0_0.length+5000) l0_0 a1
theorem spec_l5Within.calls (A0_0 : Option Addr) (c0_0 : Nat) (l0_0 : List Int) (a1 : Int) (r : Bool) (w : World) (hr0_0 : Kd.C (Kd.int .i64) w A0_0 l0_0.length l0_0) (hc0_0 : l0_0.length ≤ c0_0) (h : spec_l5Within.f l0_0 a1 = some r) :
    Calls Try.prog 59 #[.agg #[.slice A0_0 l0_0.length c0_0], .int .i64 a1] w fun e w' => e = .returned (.bool r) ∧ Below w.heap.size w w' :=
  Q.spec_l5Within.calls (l0_0.length*(l0_0.length+2)+l0_0.length+5000) A0_0 c0_0 l0_0 a1 r w hr0_0 hc0_0 h
def spec_l5Dual.f (l0_0 : List Int) (a1 : Int) : Option (List Int) := Q.spec_l5Dual.f (l0_0.length*(l0_0.length+2)+l0_0.length+5000) l0_0 a1
theorem spec_l5Dual.calls (A0_0 : Option Addr) (c0_0 : Nat) (l0_0 : List Int) (a1 : Int) (r : List Int) (w : World) (hr0_0 : Kd.C (Kd.int .i64) w A0_0 l0_0.length l0_0) (hc0_0 : l0_0.length ≤ c0_0) (h : spec_l5Dual.f l0_0 a1 = some r) :
    Calls Try.prog 61 #[.agg #[.slice A0_0 l0_0.length c0_0], .int .i64 a1] w fun e w' => ∃ v0_ : Value, e = .returned (.agg #[v0_]) ∧ Kd.R (Kd.int .i64) 3 w' w.heap.size (fun _ => True) v0_ r ∧ Below w.heap.size w w' :=
  Q.spec_l5Dual.calls (l0_0.length*(l0_0.length+2)+l0_0.length+5000) A0_0 c0_0 l0_0 a1 r w hr0_0 hc0_0 h
def impl_IsSelfDual.f (l0_0 : List Int) (a1 : Int) : Option (Bool × Bool) := Q.impl_IsSelfDual.f (l0_0.length*(l0_0.length+2)+l0_0.length+5000) l0_0 a1
theorem impl_IsSelfDual.calls (A0_0 : Option Addr) (c0_0 : Nat) (l0_0 : List Int) (a1 : Int) (r1 : Bool) (r2 : Bool) (w : World) (hr0_0 : Kd.C (Kd.int .i64) w A0_0 l0_0.length l0_0) (hc0_0 : l0_0.length ≤ c0_0) (h : impl_IsSelfDual.f l0_0 a1 = some (r1, r2)) :
    Calls Try.prog 32 #[.agg #[.slice A0_0 l0_0.length c0_0], .int .i64 a1] w fun e w' => e = .returned (.tuple #[.bool r1, .bool r2]) ∧ Below w.heap.size w w' :=
  Q.impl_IsSelfDual.calls (l0_0.length*(l0_0.length+2)+l0_0.length+5000) A0_0 c0_0 l0_0 a1 r1 r2 w hr0_0 hc0_0 h
end Go.Proofs.Ytncdgimmalifjaa.PFnExactIsSelfDual
