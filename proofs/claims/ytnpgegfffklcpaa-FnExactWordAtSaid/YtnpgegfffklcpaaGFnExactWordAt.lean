/- The functions that the law FnExactWordAt names, as given to its print: each with rounds enough for its arguments, and its contract. No condition. -/
import Derived.Test.YtnpgegfffklcpaaWB
namespace Go.Proofs.Ytnpgegfffklcpaa.PFnExactWordAt
open Go.RowKit Go.Proofs.YtnpgegfffklcpaaW.PrintWords Go.Proofs.YtnpgegfffklcpaaW.PrintLast Go.Proofs.YtnpgegfffklcpaaW.PrintMore Go.Proofs.YtnpgegfffklcpaaM
set_option linter.unusedVariables false
def impl_WordAt.f (a0 : Int) (a1 : Int) : Option (List Int × Bool) := KW.impl_WordAt.f (400) a0 a1
theorem impl_WordAt.calls (a0 : Int) (a1 : Int) (r1 : List Int) (r2 : Bool) (w : World) (h : impl_WordAt.f a0 a1 = some (r1, r2)) :
    Calls Try.prog 15 #[.int .i64 a0, .int .i64 a1] w fun e w' => ∃ v0_ : Value, e = .returned (.tuple #[v0_, .bool r2]) ∧ Kd.R (Kd.int .i64) 3 w' w.heap.size (fun _ => True) v0_ r1 ∧ Below w.heap.size w w' :=
  KW.impl_WordAt.calls (400) a0 a1 r1 r2 w h
end Go.Proofs.Ytnpgegfffklcpaa.PFnExactWordAt
