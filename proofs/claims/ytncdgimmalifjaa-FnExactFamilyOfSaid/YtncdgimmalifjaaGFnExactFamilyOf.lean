/- The functions that the law FnExactFamilyOf names, as given to its print: each with rounds enough for its arguments, and its contract. No condition. -/
import Derived.Test.YtncdgimmalifjaaQA
namespace Go.Proofs.Ytncdgimmalifjaa.PFnExactFamilyOf
open Go.RowKit Go.Proofs.YtncdgimmalifjaaW.PrintWords Go.Proofs.YtncdgimmalifjaaW.PrintLast Go.Proofs.YtncdgimmalifjaaW.PrintMore Go.Proofs.YtncdgimmalifjaaM
set_option linter.unusedVariables false
def spec_FamilyOf.f (l0 : List Int) : Option (List Int × Bool) := Q.spec_FamilyOf.f (2*l0.length+5000) l0
theorem spec_FamilyOf.calls (A0 : Option Addr) (c0 : Nat) (l0 : List Int) (r1 : List Int) (r2 : Bool) (w : World) (hr0 : Kd.C (Kd.int .i64) w A0 l0.length l0) (hc0 : l0.length ≤ c0) (h : spec_FamilyOf.f l0 = some (r1, r2)) :
    Calls Try.prog 11 #[.slice A0 l0.length c0] w fun e w' => ∃ v0_ : Value, e = .returned (.tuple #[.agg #[v0_], .bool r2]) ∧ Kd.R (Kd.int .i64) 3 w' w.heap.size (fun _ => True) v0_ r1 ∧ Below w.heap.size w w' :=
  Q.spec_FamilyOf.calls (2*l0.length+5000) A0 c0 l0 r1 r2 w hr0 hc0 h
def impl_FamilyOf.f (l0 : List Int) : Option (List Int × Bool) := Q.impl_FamilyOf.f (2*l0.length+5000) l0
theorem impl_FamilyOf.calls (A0 : Option Addr) (c0 : Nat) (l0 : List Int) (r1 : List Int) (r2 : Bool) (w : World) (hr0 : Kd.C (Kd.int .i64) w A0 l0.length l0) (hc0 : l0.length ≤ c0) (h : impl_FamilyOf.f l0 = some (r1, r2)) :
    Calls Try.prog 13 #[.slice A0 l0.length c0] w fun e w' => ∃ v0_ : Value, e = .returned (.tuple #[.agg #[v0_], .bool r2]) ∧ Kd.R (Kd.int .i64) 3 w' w.heap.size (fun _ => True) v0_ r1 ∧ Below w.heap.size w w' :=
  Q.impl_FamilyOf.calls (2*l0.length+5000) A0 c0 l0 r1 r2 w hr0 hc0 h
end Go.Proofs.Ytncdgimmalifjaa.PFnExactFamilyOf
