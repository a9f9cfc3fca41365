/- The functions that the law FnExactFamilyOfWord names, as given to its print: each with rounds enough for its arguments, and its contract. No condition. -/
import Derived.Test.YtlbhfbanbdahdaaQA
namespace Go.Proofs.Ytlbhfbanbdahdaa.PFnExactFamilyOfWord
open Go.RowKit Go.Proofs.YtlbhfbanbdahdaaW.PrintWords Go.Proofs.YtlbhfbanbdahdaaW.PrintLast Go.Proofs.YtlbhfbanbdahdaaW.PrintMore Go.Proofs.YtlbhfbanbdahdaaM
set_option linter.unusedVariables false
def spec_FamilyOfWord.f (l0 : List Int) : Option (List Int × Bool) := Q.spec_FamilyOfWord.f (2*l0.length+20000) l0
theorem spec_FamilyOfWord.calls (A0 : Option Addr) (c0 : Nat) (l0 : List Int) (r1 : List Int) (r2 : Bool) (w : World) (hr0 : Kd.C (Kd.int .i64) w A0 l0.length l0) (hc0 : l0.length ≤ c0) (h : spec_FamilyOfWord.f l0 = some (r1, r2)) :
    Calls Try.prog 15 #[.slice A0 l0.length c0] w fun e w' => ∃ v0_ : Value, e = .returned (.tuple #[.agg #[v0_], .bool r2]) ∧ Kd.R (Kd.int .i64) 3 w' w.heap.size (fun _ => True) v0_ r1 ∧ Below w.heap.size w w' :=
  Q.spec_FamilyOfWord.calls (2*l0.length+20000) A0 c0 l0 r1 r2 w hr0 hc0 h
def impl_FamilyOfWord.f (l0 : List Int) : Option (List Int × Bool) := Q.impl_FamilyOfWord.f (2*l0.length+20000) l0
theorem impl_FamilyOfWord.calls (A0 : Option Addr) (c0 : Nat) (l0 : List Int) (r1 : List Int) (r2 : Bool) (w : World) (hr0 : Kd.C (Kd.int .i64) w A0 l0.length l0) (hc0 : l0.length ≤ c0) (h : impl_FamilyOfWord.f l0 = some (r1, r2)) :
    Calls Try.prog 16 #[.slice A0 l0.length c0] w fun e w' => ∃ v0_ : Value, e = .returned (.tuple #[.agg #[v0_], .bool r2]) ∧ Kd.R (Kd.int .i64) 3 w' w.heap.size (fun _ => True) v0_ r1 ∧ Below w.heap.size w w' :=
  Q.impl_FamilyOfWord.calls (2*l0.length+20000) A0 c0 l0 r1 r2 w hr0 hc0 h
end Go.Proofs.Ytlbhfbanbdahdaa.PFnExactFamilyOfWord
