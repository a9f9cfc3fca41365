/-
  No cell of these rows narrows 'for every input' (looked for: loops, veiled, ifaces, maps, wideKeys, modest, calm, conditions, laid).
  DERIVED. THE GIVEN ROWS OF THIS SEAT. 7 by the template 'for every input the law returns true; each argument reads behind the call as it read before'; 0 by the template 'total and deterministic' (their statements: YtblhjcdfccggfaaTotals.lean).
  GIVEN WITH THE SEED: the statements are not yours to turn. If you find one false, say at which input.
  Laid BY PROGRAM, IN A SANDBOX (cutbox-rows.mjs): the forced cells as the released guide's own fill.sh prints them over the translation 71ef13a5498f53b7… (all of the seat's roots in one cut). By AI agents, Wed Nov 11 2026. No macro, syntax, notation, axiom, sorry.
-/
import Derived.Test.YtblhjcdfccggfaaChecked
import GoSem.Claim
import GoSem.ClaimJoined
import GoSem.ClaimMapViews
import Derived.JoinedTies
import Derived.KernelRfl
namespace Go.Proofs.Ytblhjcdfccggfaa
/- THE CELL 'sum', in the pinned program and in every row, IS THE sha256 OF THE DUMP (.gsa) THAT YtblhjcdfccggfaaProg.lean LOADS. Nothing in Lean hashes anything: it is a label: what it is worth is what the hold of that sum in a sandbox is worth. -/
noncomputable def Try.pinned : Pinned := { name := "ytblhjcdfccggfaa", sum := "71ef13a5498f53b7c7cd8a3075df17b81e889139091c9489d8412baf507393ce", checked := Try.checked }
namespace Rows
def none {H : Type} : Left H := { results := [], args := [] }

/-- 'laws.FnExactPairSum': WHATEVER THE INPUT: true; the input reads as it did. -/
def fnExactPairSumSpec : ChangeSpec := { name := "fnExactPairSum", fn := fun _ => fun
  | [d1, d2, d3] => { results := [.lit (.bool true)], args := [d1, d2, d3] }
  | _ => none }
def fnExactPairSumRow : OpenClaim := { program := "ytblhjcdfccggfaa", sum := "71ef13a5498f53b7c7cd8a3075df17b81e889139091c9489d8412baf507393ce", func := "loop.example/g01206/laws.FnExactPairSum", spec := "fnExactPairSum", unfollowed := true, recurses := true, apart := false }
def FnExactPairSumSaid : Prop := fnExactPairSumRow.holds Try.pinned (OpenSpec.ofChange fnExactPairSumSpec)

/-- ITS FALSE NEIGHBOUR: 'it returns false'. Refute it at one input. -/
def fnExactPairSumWrong : ChangeSpec := { name := "fnExactPairSum", fn := fun _ => fun
  | [d1, d2, d3] => { results := [.lit (.bool false)], args := [d1, d2, d3] }
  | _ => none }
def FnExactPairSumWrongFalsely : Prop := fnExactPairSumRow.holds Try.pinned (OpenSpec.ofChange fnExactPairSumWrong)

/-- 'laws.FnExactAreaOf': WHATEVER THE INPUT: true; the input reads as it did. -/
def fnExactAreaOfSpec : ChangeSpec := { name := "fnExactAreaOf", fn := fun _ => fun
  | [d1, d2, d3] => { results := [.lit (.bool true)], args := [d1, d2, d3] }
  | _ => none }
def fnExactAreaOfRow : OpenClaim := { program := "ytblhjcdfccggfaa", sum := "71ef13a5498f53b7c7cd8a3075df17b81e889139091c9489d8412baf507393ce", func := "loop.example/g01206/laws.FnExactAreaOf", spec := "fnExactAreaOf", unfollowed := true, recurses := true, apart := false }
def FnExactAreaOfSaid : Prop := fnExactAreaOfRow.holds Try.pinned (OpenSpec.ofChange fnExactAreaOfSpec)

/-- ITS FALSE NEIGHBOUR: 'it returns false'. Refute it at one input. -/
def fnExactAreaOfWrong : ChangeSpec := { name := "fnExactAreaOf", fn := fun _ => fun
  | [d1, d2, d3] => { results := [.lit (.bool false)], args := [d1, d2, d3] }
  | _ => none }
def FnExactAreaOfWrongFalsely : Prop := fnExactAreaOfRow.holds Try.pinned (OpenSpec.ofChange fnExactAreaOfWrong)

/-- 'laws.FnExactSameToOrder': WHATEVER THE INPUT: true; the input reads as it did. -/
def fnExactSameToOrderSpec : ChangeSpec := { name := "fnExactSameToOrder", fn := fun _ => fun
  | [d1, d2, d3] => { results := [.lit (.bool true)], args := [d1, d2, d3] }
  | _ => none }
def fnExactSameToOrderRow : OpenClaim := { program := "ytblhjcdfccggfaa", sum := "71ef13a5498f53b7c7cd8a3075df17b81e889139091c9489d8412baf507393ce", func := "loop.example/g01206/laws.FnExactSameToOrder", spec := "fnExactSameToOrder", unfollowed := true, recurses := true, apart := false }
def FnExactSameToOrderSaid : Prop := fnExactSameToOrderRow.holds Try.pinned (OpenSpec.ofChange fnExactSameToOrderSpec)

/-- ITS FALSE NEIGHBOUR: 'it returns false'. Refute it at one input. -/
def fnExactSameToOrderWrong : ChangeSpec := { name := "fnExactSameToOrder", fn := fun _ => fun
  | [d1, d2, d3] => { results := [.lit (.bool false)], args := [d1, d2, d3] }
  | _ => none }
def FnExactSameToOrderWrongFalsely : Prop := fnExactSameToOrderRow.holds Try.pinned (OpenSpec.ofChange fnExactSameToOrderWrong)

/-- 'laws.FnExactCoefficientOf': WHATEVER THE INPUT: true; the input reads as it did. -/
def fnExactCoefficientOfSpec : ChangeSpec := { name := "fnExactCoefficientOf", fn := fun _ => fun
  | [d1, d2] => { results := [.lit (.bool true)], args := [d1, d2] }
  | _ => none }
def fnExactCoefficientOfRow : OpenClaim := { program := "ytblhjcdfccggfaa", sum := "71ef13a5498f53b7c7cd8a3075df17b81e889139091c9489d8412baf507393ce", func := "loop.example/g01206/laws.FnExactCoefficientOf", spec := "fnExactCoefficientOf", unfollowed := true, recurses := true, apart := false }
def FnExactCoefficientOfSaid : Prop := fnExactCoefficientOfRow.holds Try.pinned (OpenSpec.ofChange fnExactCoefficientOfSpec)

/-- ITS FALSE NEIGHBOUR: 'it returns false'. Refute it at one input. -/
def fnExactCoefficientOfWrong : ChangeSpec := { name := "fnExactCoefficientOf", fn := fun _ => fun
  | [d1, d2] => { results := [.lit (.bool false)], args := [d1, d2] }
  | _ => none }
def FnExactCoefficientOfWrongFalsely : Prop := fnExactCoefficientOfRow.holds Try.pinned (OpenSpec.ofChange fnExactCoefficientOfWrong)

/-- 'laws.FnExactCountCoefficients': WHATEVER THE INPUT: true; the input reads as it did. -/
def fnExactCountCoefficientsSpec : ChangeSpec := { name := "fnExactCountCoefficients", fn := fun _ => fun
  | [d] => { results := [.lit (.bool true)], args := [d] }
  | _ => none }
def fnExactCountCoefficientsRow : OpenClaim := { program := "ytblhjcdfccggfaa", sum := "71ef13a5498f53b7c7cd8a3075df17b81e889139091c9489d8412baf507393ce", func := "loop.example/g01206/laws.FnExactCountCoefficients", spec := "fnExactCountCoefficients", unfollowed := true, recurses := true, apart := false }
def FnExactCountCoefficientsSaid : Prop := fnExactCountCoefficientsRow.holds Try.pinned (OpenSpec.ofChange fnExactCountCoefficientsSpec)

/-- ITS FALSE NEIGHBOUR: 'it returns false'. Refute it at one input. -/
def fnExactCountCoefficientsWrong : ChangeSpec := { name := "fnExactCountCoefficients", fn := fun _ => fun
  | [d] => { results := [.lit (.bool false)], args := [d] }
  | _ => none }
def FnExactCountCoefficientsWrongFalsely : Prop := fnExactCountCoefficientsRow.holds Try.pinned (OpenSpec.ofChange fnExactCountCoefficientsWrong)

/-- 'laws.FnExactFirstCoefficient': WHATEVER THE INPUT: true; the input reads as it did. -/
def fnExactFirstCoefficientSpec : ChangeSpec := { name := "fnExactFirstCoefficient", fn := fun _ => fun
  | [d] => { results := [.lit (.bool true)], args := [d] }
  | _ => none }
def fnExactFirstCoefficientRow : OpenClaim := { program := "ytblhjcdfccggfaa", sum := "71ef13a5498f53b7c7cd8a3075df17b81e889139091c9489d8412baf507393ce", func := "loop.example/g01206/laws.FnExactFirstCoefficient", spec := "fnExactFirstCoefficient", unfollowed := true, recurses := true, apart := false }
def FnExactFirstCoefficientSaid : Prop := fnExactFirstCoefficientRow.holds Try.pinned (OpenSpec.ofChange fnExactFirstCoefficientSpec)

/-- ITS FALSE NEIGHBOUR: 'it returns false'. Refute it at one input. -/
def fnExactFirstCoefficientWrong : ChangeSpec := { name := "fnExactFirstCoefficient", fn := fun _ => fun
  | [d] => { results := [.lit (.bool false)], args := [d] }
  | _ => none }
def FnExactFirstCoefficientWrongFalsely : Prop := fnExactFirstCoefficientRow.holds Try.pinned (OpenSpec.ofChange fnExactFirstCoefficientWrong)

/-- 'laws.FnExactOrderOf': WHATEVER THE INPUT: true; the input reads as it did. -/
def fnExactOrderOfSpec : ChangeSpec := { name := "fnExactOrderOf", fn := fun _ => fun
  | [d] => { results := [.lit (.bool true)], args := [d] }
  | _ => none }
def fnExactOrderOfRow : OpenClaim := { program := "ytblhjcdfccggfaa", sum := "71ef13a5498f53b7c7cd8a3075df17b81e889139091c9489d8412baf507393ce", func := "loop.example/g01206/laws.FnExactOrderOf", spec := "fnExactOrderOf", unfollowed := true, recurses := true, apart := false }
def FnExactOrderOfSaid : Prop := fnExactOrderOfRow.holds Try.pinned (OpenSpec.ofChange fnExactOrderOfSpec)

/-- ITS FALSE NEIGHBOUR: 'it returns false'. Refute it at one input. -/
def fnExactOrderOfWrong : ChangeSpec := { name := "fnExactOrderOf", fn := fun _ => fun
  | [d] => { results := [.lit (.bool false)], args := [d] }
  | _ => none }
def FnExactOrderOfWrongFalsely : Prop := fnExactOrderOfRow.holds Try.pinned (OpenSpec.ofChange fnExactOrderOfWrong)

/- THE SECOND FORM. 'bulk': how many values and letters a reading holds, each counted each time it is reached (what is shared counts as often as it is met; a slice's spare places count too). A statement '..UptoSaid' is the law's where the arguments, and the package variables that the reading takes, are together of bulk at most 1048576: NARROWER than '..Said'. Prove '..Said' where nothing that the law and all that it calls make is longer than what came in: it says more and counts as full. Else prove '..UptoSaid'. A law counts once. -/
mutual
def uptoBulk {H : Type} : DataW H → Nat
  | .lit (.string bytes) => bytes.length + 1
  | .lit _ => 1
  | .nil => 1
  | .ptr d => uptoBulk d + 1
  | .slice elems spare => uptoBulkAll elems + uptoBulkAll spare + 1
  | .agg parts => uptoBulkAll parts + 1
  | .iface _ d => uptoBulk d + 1
  | .map entries => uptoBulkEntries entries + 1
  | .held _ => 1
def uptoBulkAll {H : Type} : List (DataW H) → Nat
  | [] => 0
  | d :: r => uptoBulk d + uptoBulkAll r
def uptoBulkEntries {H : Type} : List (Lit × DataW H) → Nat
  | [] => 0
  | x :: r => uptoBulkEntry x + uptoBulkEntries r
def uptoBulkEntry {H : Type} : Lit × DataW H → Nat
  | (.string bytes, d) => bytes.length + uptoBulk d + 1
  | (_, d) => uptoBulk d + 1
 end
def uptoSmall : (H : Type) → List (DataW H) → Bool := fun _ ds => decide (uptoBulkAll ds ≤ 1048576)
def OpenSpec.upto (s : _root_.Go.ChangeSpec) : _root_.Go.OpenSpec := { _root_.Go.OpenSpec.ofChange s with cond := some uptoSmall }

/-- 'laws.FnExactPairSum', WHERE WHAT IT READS IS OF BULK AT MOST 1048576: true; the input reads as it did. -/
def fnExactPairSumUptoRow : OpenClaim := { program := "ytblhjcdfccggfaa", sum := "71ef13a5498f53b7c7cd8a3075df17b81e889139091c9489d8412baf507393ce", func := "loop.example/g01206/laws.FnExactPairSum", spec := "fnExactPairSum", unfollowed := true, recurses := true, apart := false, narrowed := true }
def FnExactPairSumUptoSaid : Prop := fnExactPairSumUptoRow.holds Try.pinned (OpenSpec.upto fnExactPairSumSpec)

/-- 'laws.FnExactAreaOf', WHERE WHAT IT READS IS OF BULK AT MOST 1048576: true; the input reads as it did. -/
def fnExactAreaOfUptoRow : OpenClaim := { program := "ytblhjcdfccggfaa", sum := "71ef13a5498f53b7c7cd8a3075df17b81e889139091c9489d8412baf507393ce", func := "loop.example/g01206/laws.FnExactAreaOf", spec := "fnExactAreaOf", unfollowed := true, recurses := true, apart := false, narrowed := true }
def FnExactAreaOfUptoSaid : Prop := fnExactAreaOfUptoRow.holds Try.pinned (OpenSpec.upto fnExactAreaOfSpec)

/-- 'laws.FnExactSameToOrder', WHERE WHAT IT READS IS OF BULK AT MOST 1048576: true; the input reads as it did. -/
def fnExactSameToOrderUptoRow : OpenClaim := { program := "ytblhjcdfccggfaa", sum := "71ef13a5498f53b7c7cd8a3075df17b81e889139091c9489d8412baf507393ce", func := "loop.example/g01206/laws.FnExactSameToOrder", spec := "fnExactSameToOrder", unfollowed := true, recurses := true, apart := false, narrowed := true }
def FnExactSameToOrderUptoSaid : Prop := fnExactSameToOrderUptoRow.holds Try.pinned (OpenSpec.upto fnExactSameToOrderSpec)

/-- 'laws.FnExactCoefficientOf', WHERE WHAT IT READS IS OF BULK AT MOST 1048576: true; the input reads as it did. -/
def fnExactCoefficientOfUptoRow : OpenClaim := { program := "ytblhjcdfccggfaa", sum := "71ef13a5498f53b7c7cd8a3075df17b81e889139091c9489d8412baf507393ce", func := "loop.example/g01206/laws.FnExactCoefficientOf", spec := "fnExactCoefficientOf", unfollowed := true, recurses := true, apart := false, narrowed := true }
def FnExactCoefficientOfUptoSaid : Prop := fnExactCoefficientOfUptoRow.holds Try.pinned (OpenSpec.upto fnExactCoefficientOfSpec)

/-- 'laws.FnExactCountCoefficients', WHERE WHAT IT READS IS OF BULK AT MOST 1048576: true; the input reads as it did. -/
def fnExactCountCoefficientsUptoRow : OpenClaim := { program := "ytblhjcdfccggfaa", sum := "71ef13a5498f53b7c7cd8a3075df17b81e889139091c9489d8412baf507393ce", func := "loop.example/g01206/laws.FnExactCountCoefficients", spec := "fnExactCountCoefficients", unfollowed := true, recurses := true, apart := false, narrowed := true }
def FnExactCountCoefficientsUptoSaid : Prop := fnExactCountCoefficientsUptoRow.holds Try.pinned (OpenSpec.upto fnExactCountCoefficientsSpec)

/-- 'laws.FnExactFirstCoefficient', WHERE WHAT IT READS IS OF BULK AT MOST 1048576: true; the input reads as it did. -/
def fnExactFirstCoefficientUptoRow : OpenClaim := { program := "ytblhjcdfccggfaa", sum := "71ef13a5498f53b7c7cd8a3075df17b81e889139091c9489d8412baf507393ce", func := "loop.example/g01206/laws.FnExactFirstCoefficient", spec := "fnExactFirstCoefficient", unfollowed := true, recurses := true, apart := false, narrowed := true }
def FnExactFirstCoefficientUptoSaid : Prop := fnExactFirstCoefficientUptoRow.holds Try.pinned (OpenSpec.upto fnExactFirstCoefficientSpec)

/-- 'laws.FnExactOrderOf', WHERE WHAT IT READS IS OF BULK AT MOST 1048576: true; the input reads as it did. -/
def fnExactOrderOfUptoRow : OpenClaim := { program := "ytblhjcdfccggfaa", sum := "71ef13a5498f53b7c7cd8a3075df17b81e889139091c9489d8412baf507393ce", func := "loop.example/g01206/laws.FnExactOrderOf", spec := "fnExactOrderOf", unfollowed := true, recurses := true, apart := false, narrowed := true }
def FnExactOrderOfUptoSaid : Prop := fnExactOrderOfUptoRow.holds Try.pinned (OpenSpec.upto fnExactOrderOfSpec)

end Rows
end Go.Proofs.Ytblhjcdfccggfaa
