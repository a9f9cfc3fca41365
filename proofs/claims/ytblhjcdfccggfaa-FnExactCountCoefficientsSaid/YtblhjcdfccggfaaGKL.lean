/- The functions that the law KL names, as given to its print: each with rounds enough for its arguments, and its contract. No condition. -/
import Derived.Test.YtblhjcdfccggfaaCN
namespace Go.Proofs.Ytblhjcdfccggfaa.KL
open Go.RowKit Go.Proofs.YtblhjcdfccggfaaW.PrintWords Go.Proofs.YtblhjcdfccggfaaW.PrintLast Go.Proofs.YtblhjcdfccggfaaW.PrintMore Go.Proofs.YtblhjcdfccggfaaM
set_option linter.unusedVariables false
def slices_Clone_int_int.f (l0 : List Int) : Option (List Int) := Q.slices_Clone_int_int.f l0
theorem slices_Clone_int_int.calls (A0 : Option Addr) (c0 : Nat) (l0 : List Int) (r : List Int) (w : World) (hr0 : Kd.C (Kd.int .i64) w A0 l0.length l0) (hc0 : l0.length ≤ c0) (h : slices_Clone_int_int.f l0 = some r) :
    Calls Try.prog 61 #[.slice A0 l0.length c0] w fun e w' => ∃ v0_ : Value, e = .returned (v0_) ∧ Kd.R (Kd.int .i64) 3 w' w.heap.size (fun _ => True) v0_ r ∧ Below w.heap.size w w' :=
  Q.slices_Clone_int_int.calls A0 c0 l0 r w hr0 hc0 h
end Go.Proofs.Ytblhjcdfccggfaa.KL
