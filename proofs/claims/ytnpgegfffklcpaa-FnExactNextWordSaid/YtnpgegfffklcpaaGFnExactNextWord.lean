/- The functions that the law FnExactNextWord names, as given to its print: each with rounds enough for its arguments, and its contract. No condition. -/
import Derived.Test.YtnpgegfffklcpaaQA
import Derived.Test.YtnpgegfffklcpaaCN
namespace Go.Proofs.Ytnpgegfffklcpaa.PFnExactNextWord
open Go.RowKit Go.Proofs.YtnpgegfffklcpaaW.PrintWords Go.Proofs.YtnpgegfffklcpaaW.PrintLast Go.Proofs.YtnpgegfffklcpaaW.PrintMore Go.Proofs.YtnpgegfffklcpaaM
set_option linter.unusedVariables false
def impl_choices.f (a0 : Int) (a1 : Int) : Option (List Int) := Q.impl_choices.f (100) a0 a1
theorem impl_choices.calls (a0 : Int) (a1 : Int) (r : List Int) (w : World)  (h : impl_choices.f a0 a1 = some r) :
    Calls Try.prog 47 #[.int .i64 a0, .int .i64 a1] w fun e w' => ∃ v0_ : Value, e = .returned (v0_) ∧ Kd.R (Kd.int .i64) 3 w' w.heap.size (fun _ => True) v0_ r ∧ Below w.heap.size w w' :=
  Q.impl_choices.calls (100) a0 a1 r w h
def impl_isOver.f (l0 : List Int) (a1 : Int) : Option (Bool) := Q.impl_isOver.f (2*l0.length+100) l0 a1
theorem impl_isOver.calls (A0 : Option Addr) (c0 : Nat) (l0 : List Int) (a1 : Int) (r : Bool) (w : World) (hr0 : Kd.C (Kd.int .i64) w A0 l0.length l0) (hc0 : l0.length ≤ c0) (h : impl_isOver.f l0 a1 = some r) :
    Calls Try.prog 46 #[.slice A0 l0.length c0, .int .i64 a1] w fun e w' => e = .returned (.bool r) ∧ Below w.heap.size w w' :=
  Q.impl_isOver.calls (2*l0.length+100) A0 c0 l0 a1 r w hr0 hc0 h
def slices_Clone_int_int.f (l0 : List Int) : Option (List Int) := Q.slices_Clone_int_int.f l0
theorem slices_Clone_int_int.calls (A0 : Option Addr) (c0 : Nat) (l0 : List Int) (r : List Int) (w : World) (hr0 : Kd.C (Kd.int .i64) w A0 l0.length l0) (hc0 : l0.length ≤ c0) (h : slices_Clone_int_int.f l0 = some r) :
    Calls Try.prog 50 #[.slice A0 l0.length c0] w fun e w' => ∃ v0_ : Value, e = .returned (v0_) ∧ Kd.R (Kd.int .i64) 3 w' w.heap.size (fun _ => True) v0_ r ∧ Below w.heap.size w w' :=
  Q.slices_Clone_int_int.calls A0 c0 l0 r w hr0 hc0 h
end Go.Proofs.Ytnpgegfffklcpaa.PFnExactNextWord
