/- The functions that the law FnExactWordAt names, as given to its print: each with rounds enough for its arguments, and its contract. No condition. -/
import Derived.Test.YtnpgegfffklcpaaQA
namespace Go.Proofs.Ytnpgegfffklcpaa.KW
open Go.RowKit Go.Proofs.YtnpgegfffklcpaaW.PrintWords Go.Proofs.YtnpgegfffklcpaaW.PrintLast Go.Proofs.YtnpgegfffklcpaaW.PrintMore Go.Proofs.YtnpgegfffklcpaaM
set_option linter.unusedVariables false
def impl_choices.f (a0 : Int) (a1 : Int) : Option (List Int) := Q.impl_choices.f (100) a0 a1
theorem impl_choices.calls (a0 : Int) (a1 : Int) (r : List Int) (w : World)  (h : impl_choices.f a0 a1 = some r) :
    Calls Try.prog 47 #[.int .i64 a0, .int .i64 a1] w fun e w' => ∃ v0_ : Value, e = .returned (v0_) ∧ Kd.R (Kd.int .i64) 3 w' w.heap.size (fun _ => True) v0_ r ∧ Below w.heap.size w w' :=
  Q.impl_choices.calls (100) a0 a1 r w h
end Go.Proofs.Ytnpgegfffklcpaa.KW
