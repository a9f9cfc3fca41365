/- The functions that the law KC names, as given to its print: each with rounds enough for its arguments, and its contract. No condition. -/
import Derived.Test.YtlbhfbanbdahdaaQB
import Derived.Test.YtlbhfbanbdahdaaQC
namespace Go.Proofs.Ytlbhfbanbdahdaa.KB
open Go.RowKit Go.Proofs.YtlbhfbanbdahdaaW.PrintWords Go.Proofs.YtlbhfbanbdahdaaW.PrintLast Go.Proofs.YtlbhfbanbdahdaaW.PrintMore Go.Proofs.YtlbhfbanbdahdaaM
set_option linter.unusedVariables false
def spec_l5Family.f (l0_0 : List Int) : Option (Bool) := Q.spec_l5Family.f (l0_0.length * (l0_0.length + 2) + 100) l0_0
theorem spec_l5Family.calls (A0_0 : Option Addr) (c0_0 : Nat) (l0_0 : List Int) (r : Bool) (w : World) (hr0_0 : Kd.C (Kd.int .i64) w A0_0 l0_0.length l0_0) (hc0_0 : l0_0.length ≤ c0_0) (h : spec_l5Family.f l0_0 = some r) :
    Calls Try.prog 43 #[.agg #[.slice A0_0 l0_0.length c0_0]] w fun e w' => e = .returned (.bool r) ∧ Below w.heap.size w w' :=
  Q.spec_l5Family.calls (l0_0.length * (l0_0.length + 2) + 100) A0_0 c0_0 l0_0 r w hr0_0 hc0_0 h
def spec_l7Rule.f (l0_0 : List Int) (a1 : Int) : Option (Int) := Q.spec_l7Rule.f (l0_0.length + 400) l0_0 a1
theorem spec_l7Rule.calls (A0_0 : Option Addr) (c0_0 : Nat) (l0_0 : List Int) (a1 : Int) (r : Int) (w : World) (hr0_0 : Kd.C (Kd.int .i64) w A0_0 l0_0.length l0_0) (hc0_0 : l0_0.length ≤ c0_0) (h : spec_l7Rule.f l0_0 a1 = some r) :
    Calls Try.prog 55 #[.agg #[.slice A0_0 l0_0.length c0_0], .int .i64 a1] w fun e w' => e = .returned (.int .i64 r) ∧ Below w.heap.size w w' :=
  Q.spec_l7Rule.calls (l0_0.length + 400) A0_0 c0_0 l0_0 a1 r w hr0_0 hc0_0 h
def spec_l7Code.f (l0 : List Int) (a1 : Int) : Option (Int) := Q.spec_l7Code.f (500) l0 a1
theorem spec_l7Code.calls (A0 : Option Addr) (c0 : Nat) (l0 : List Int) (a1 : Int) (r : Int) (w : World) (hr0 : Kd.C (Kd.int .i64) w A0 l0.length l0) (hc0 : l0.length ≤ c0) (h : spec_l7Code.f l0 a1 = some r) :
    Calls Try.prog 49 #[.slice A0 l0.length c0, .int .i64 a1] w fun e w' => e = .returned (.int .i64 r) ∧ Below w.heap.size w w' :=
  Q.spec_l7Code.calls (500) A0 c0 l0 a1 r w hr0 hc0 h
end Go.Proofs.Ytlbhfbanbdahdaa.KB
