/- The functions that the law FnExactCountWith names, as given to its print: each with rounds enough for its arguments, and its contract. No condition. -/
import Derived.Test.YtlbhfbanbdahdaaQD
import Derived.Test.YtlbhfbanbdahdaaKB2
import Derived.Test.YtlbhfbanbdahdaaWI
namespace Go.Proofs.Ytlbhfbanbdahdaa.PFnExactCountWith
open Go.RowKit Go.Proofs.YtlbhfbanbdahdaaW.PrintWords Go.Proofs.YtlbhfbanbdahdaaW.PrintLast Go.Proofs.YtlbhfbanbdahdaaW.PrintMore Go.Proofs.YtlbhfbanbdahdaaM
set_option linter.unusedVariables false
def spec_CountWith.f (l0_0 : List Int) (a1 : Int) (a2 : Int) : Option (Int × Bool) := KB.spec_CountWith.f (Q.bigK) l0_0 a1 a2
theorem spec_CountWith.calls (A0_0 : Option Addr) (c0_0 : Nat) (l0_0 : List Int) (a1 : Int) (a2 : Int) (r1 : Int) (r2 : Bool) (w : World) (hr0_0 : Kd.C (Kd.int .i64) w A0_0 l0_0.length l0_0) (hc0_0 : l0_0.length ≤ c0_0) (h : spec_CountWith.f l0_0 a1 a2 = some (r1, r2)) :
    Calls Try.prog 26 #[.agg #[.slice A0_0 l0_0.length c0_0], .int .i64 a1, .int .i64 a2] w fun e w' => e = .returned (.tuple #[.int .i64 r1, .bool r2]) ∧ Below w.heap.size w w' :=
  KB.spec_CountWith.calls (Q.bigK) A0_0 c0_0 l0_0 a1 a2 r1 r2 w hr0_0 hc0_0 h
def impl_CountWith.f (l0_0 : List Int) (a1 : Int) (a2 : Int) : Option (Int × Bool) := Q.impl_CountWith.f (Q.bigK + l0_0.length * (l0_0.length + 2)) l0_0 a1 a2
theorem impl_CountWith.calls (A0_0 : Option Addr) (c0_0 : Nat) (l0_0 : List Int) (a1 : Int) (a2 : Int) (r1 : Int) (r2 : Bool) (w : World) (hr0_0 : Kd.C (Kd.int .i64) w A0_0 l0_0.length l0_0) (hc0_0 : l0_0.length ≤ c0_0) (h : impl_CountWith.f l0_0 a1 a2 = some (r1, r2)) :
    Calls Try.prog 27 #[.agg #[.slice A0_0 l0_0.length c0_0], .int .i64 a1, .int .i64 a2] w fun e w' => e = .returned (.tuple #[.int .i64 r1, .bool r2]) ∧ Below w.heap.size w w' :=
  Q.impl_CountWith.calls (Q.bigK + l0_0.length * (l0_0.length + 2)) A0_0 c0_0 l0_0 a1 a2 r1 r2 w hr0_0 hc0_0 h
end Go.Proofs.Ytlbhfbanbdahdaa.PFnExactCountWith
