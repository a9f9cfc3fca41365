/-
  No cell of these rows narrows 'for every input' (looked for: loops, veiled, ifaces, maps, wideKeys, modest, calm, conditions, laid).
  DERIVED. THE GIVEN ROWS OF THIS SEAT. 6 by the template 'for every input the law returns true; each argument reads behind the call as it read before'; 0 by the template 'total and deterministic' (their statements: YtajphpfbihilmaaTotals.lean).
  GIVEN WITH THE SEED: the statements are not yours to turn. If you find one false, say at which input.
  Laid BY PROGRAM, IN A SANDBOX (cutbox-rows.mjs): the forced cells as the released guide's own fill.sh prints them over the translation 7dbeb9e6b5015587… (all of the seat's roots in one cut). By AI agents, Wed Nov 11 2026. No macro, syntax, notation, axiom, sorry.
-/
import Derived.Test.YtajphpfbihilmaaChecked
import GoSem.Claim
import GoSem.ClaimJoined
import GoSem.ClaimMapViews
import Derived.JoinedTies
import Derived.KernelRfl
namespace Go.Proofs.Ytajphpfbihilmaa
/- THE CELL 'sum', in the pinned program and in every row, IS THE sha256 OF THE DUMP (.gsa) THAT YtajphpfbihilmaaProg.lean LOADS. Nothing in Lean hashes anything: it is a label: what it is worth is what the hold of that sum in a sandbox is worth. -/
noncomputable def Try.pinned : Pinned := { name := "ytajphpfbihilmaa", sum := "7dbeb9e6b5015587409f8d1c5497ead82d67a157383e5df2af314e64109d829c", checked := Try.checked }
namespace Rows
def none {H : Type} : Left H := { results := [], args := [] }

/-- 'laws.FnExactCountReduced': WHATEVER THE INPUT: true; the input reads as it did. -/
def fnExactCountReducedSpec : ChangeSpec := { name := "fnExactCountReduced", fn := fun _ => fun
  | [d1, d2] => { results := [.lit (.bool true)], args := [d1, d2] }
  | _ => none }
def fnExactCountReducedRow : OpenClaim := { program := "ytajphpfbihilmaa", sum := "7dbeb9e6b5015587409f8d1c5497ead82d67a157383e5df2af314e64109d829c", func := "loop.example/g01206/laws.FnExactCountReduced", spec := "fnExactCountReduced", apart := false }
def FnExactCountReducedSaid : Prop := fnExactCountReducedRow.holds Try.pinned (OpenSpec.ofChange fnExactCountReducedSpec)

/-- ITS FALSE NEIGHBOUR: 'it returns false'. Refute it at one input. -/
def fnExactCountReducedWrong : ChangeSpec := { name := "fnExactCountReduced", fn := fun _ => fun
  | [d1, d2] => { results := [.lit (.bool false)], args := [d1, d2] }
  | _ => none }
def FnExactCountReducedWrongFalsely : Prop := fnExactCountReducedRow.holds Try.pinned (OpenSpec.ofChange fnExactCountReducedWrong)

/-- 'laws.FnExactSetWord': WHATEVER THE INPUT: true; the input reads as it did. -/
def fnExactSetWordSpec : ChangeSpec := { name := "fnExactSetWord", fn := fun _ => fun
  | [d] => { results := [.lit (.bool true)], args := [d] }
  | _ => none }
def fnExactSetWordRow : OpenClaim := { program := "ytajphpfbihilmaa", sum := "7dbeb9e6b5015587409f8d1c5497ead82d67a157383e5df2af314e64109d829c", func := "loop.example/g01206/laws.FnExactSetWord", spec := "fnExactSetWord", apart := false }
def FnExactSetWordSaid : Prop := fnExactSetWordRow.holds Try.pinned (OpenSpec.ofChange fnExactSetWordSpec)

/-- ITS FALSE NEIGHBOUR: 'it returns false'. Refute it at one input. -/
def fnExactSetWordWrong : ChangeSpec := { name := "fnExactSetWord", fn := fun _ => fun
  | [d] => { results := [.lit (.bool false)], args := [d] }
  | _ => none }
def FnExactSetWordWrongFalsely : Prop := fnExactSetWordRow.holds Try.pinned (OpenSpec.ofChange fnExactSetWordWrong)

/-- 'laws.FnExactCountCyclicWords': WHATEVER THE INPUT: true; the input reads as it did. -/
def fnExactCountCyclicWordsSpec : ChangeSpec := { name := "fnExactCountCyclicWords", fn := fun _ => fun
  | [d1, d2] => { results := [.lit (.bool true)], args := [d1, d2] }
  | _ => none }
def fnExactCountCyclicWordsRow : OpenClaim := { program := "ytajphpfbihilmaa", sum := "7dbeb9e6b5015587409f8d1c5497ead82d67a157383e5df2af314e64109d829c", func := "loop.example/g01206/laws.FnExactCountCyclicWords", spec := "fnExactCountCyclicWords", apart := false }
def FnExactCountCyclicWordsSaid : Prop := fnExactCountCyclicWordsRow.holds Try.pinned (OpenSpec.ofChange fnExactCountCyclicWordsSpec)

/-- ITS FALSE NEIGHBOUR: 'it returns false'. Refute it at one input. -/
def fnExactCountCyclicWordsWrong : ChangeSpec := { name := "fnExactCountCyclicWords", fn := fun _ => fun
  | [d1, d2] => { results := [.lit (.bool false)], args := [d1, d2] }
  | _ => none }
def FnExactCountCyclicWordsWrongFalsely : Prop := fnExactCountCyclicWordsRow.holds Try.pinned (OpenSpec.ofChange fnExactCountCyclicWordsWrong)

/-- 'laws.FnExactIsBalancedLoop': WHATEVER THE INPUT: true; the input reads as it did. -/
def fnExactIsBalancedLoopSpec : ChangeSpec := { name := "fnExactIsBalancedLoop", fn := fun _ => fun
  | [d] => { results := [.lit (.bool true)], args := [d] }
  | _ => none }
def fnExactIsBalancedLoopRow : OpenClaim := { program := "ytajphpfbihilmaa", sum := "7dbeb9e6b5015587409f8d1c5497ead82d67a157383e5df2af314e64109d829c", func := "loop.example/g01206/laws.FnExactIsBalancedLoop", spec := "fnExactIsBalancedLoop", unfollowed := true, recurses := true, apart := false }
def FnExactIsBalancedLoopSaid : Prop := fnExactIsBalancedLoopRow.holds Try.pinned (OpenSpec.ofChange fnExactIsBalancedLoopSpec)

/-- ITS FALSE NEIGHBOUR: 'it returns false'. Refute it at one input. -/
def fnExactIsBalancedLoopWrong : ChangeSpec := { name := "fnExactIsBalancedLoop", fn := fun _ => fun
  | [d] => { results := [.lit (.bool false)], args := [d] }
  | _ => none }
def FnExactIsBalancedLoopWrongFalsely : Prop := fnExactIsBalancedLoopRow.holds Try.pinned (OpenSpec.ofChange fnExactIsBalancedLoopWrong)

/-- 'laws.FnExactWindingsOf': WHATEVER THE INPUT: true; the input reads as it did. -/
def fnExactWindingsOfSpec : ChangeSpec := { name := "fnExactWindingsOf", fn := fun _ => fun
  | [d] => { results := [.lit (.bool true)], args := [d] }
  | _ => none }
def fnExactWindingsOfRow : OpenClaim := { program := "ytajphpfbihilmaa", sum := "7dbeb9e6b5015587409f8d1c5497ead82d67a157383e5df2af314e64109d829c", func := "loop.example/g01206/laws.FnExactWindingsOf", spec := "fnExactWindingsOf", unfollowed := true, recurses := true, apart := false }
def FnExactWindingsOfSaid : Prop := fnExactWindingsOfRow.holds Try.pinned (OpenSpec.ofChange fnExactWindingsOfSpec)

/-- ITS FALSE NEIGHBOUR: 'it returns false'. Refute it at one input. -/
def fnExactWindingsOfWrong : ChangeSpec := { name := "fnExactWindingsOf", fn := fun _ => fun
  | [d] => { results := [.lit (.bool false)], args := [d] }
  | _ => none }
def FnExactWindingsOfWrongFalsely : Prop := fnExactWindingsOfRow.holds Try.pinned (OpenSpec.ofChange fnExactWindingsOfWrong)

/-- 'laws.FnExactKeyAt': WHATEVER THE INPUT: true; the input reads as it did. -/
def fnExactKeyAtSpec : ChangeSpec := { name := "fnExactKeyAt", fn := fun _ => fun
  | [d] => { results := [.lit (.bool true)], args := [d] }
  | _ => none }
def fnExactKeyAtRow : OpenClaim := { program := "ytajphpfbihilmaa", sum := "7dbeb9e6b5015587409f8d1c5497ead82d67a157383e5df2af314e64109d829c", func := "loop.example/g01206/laws.FnExactKeyAt", spec := "fnExactKeyAt", unfollowed := true, recurses := true, apart := false }
def FnExactKeyAtSaid : Prop := fnExactKeyAtRow.holds Try.pinned (OpenSpec.ofChange fnExactKeyAtSpec)

/-- ITS FALSE NEIGHBOUR: 'it returns false'. Refute it at one input. -/
def fnExactKeyAtWrong : ChangeSpec := { name := "fnExactKeyAt", fn := fun _ => fun
  | [d] => { results := [.lit (.bool false)], args := [d] }
  | _ => none }
def FnExactKeyAtWrongFalsely : Prop := fnExactKeyAtRow.holds Try.pinned (OpenSpec.ofChange fnExactKeyAtWrong)

/- THE SECOND FORM. 'bulk': how many values and letters a reading holds, each counted each time it is reached (what is shared counts as often as it is met; a slice's spare places count too). A statement '..UptoSaid' is the law's where the arguments, and the package variables that the reading takes, are together of bulk at most 1048576: NARROWER than '..Said'. Prove '..Said' where nothing that the law and all that it calls make is longer than what came in: it says more and counts as full. Else prove '..UptoSaid'. A law counts once. -/
mutual
def uptoBulk {H : Type} : DataW H → Nat
  | .lit (.string bytes) => bytes.length + 1
  | .lit _ => 1
  | .nil => 1
  | .ptr d => uptoBulk d + 1
  | .slice elems spare => uptoBulkAll elems + uptoBulkAll spare + 1
  | .agg parts => uptoBulkAll parts + 1
  | .iface _ d => uptoBulk d + 1
  | .map entries => uptoBulkEntries entries + 1
  | .held _ => 1
def uptoBulkAll {H : Type} : List (DataW H) → Nat
  | [] => 0
  | d :: r => uptoBulk d + uptoBulkAll r
def uptoBulkEntries {H : Type} : List (Lit × DataW H) → Nat
  | [] => 0
  | x :: r => uptoBulkEntry x + uptoBulkEntries r
def uptoBulkEntry {H : Type} : Lit × DataW H → Nat
  | (.string bytes, d) => bytes.length + uptoBulk d + 1
  | (_, d) => uptoBulk d + 1
 end
def uptoSmall : (H : Type) → List (DataW H) → Bool := fun _ ds => decide (uptoBulkAll ds ≤ 1048576)
def OpenSpec.upto (s : _root_.Go.ChangeSpec) : _root_.Go.OpenSpec := { _root_.Go.OpenSpec.ofChange s with cond := some uptoSmall }

/-- 'laws.FnExactCountReduced', WHERE WHAT IT READS IS OF BULK AT MOST 1048576: true; the input reads as it did. -/
def fnExactCountReducedUptoRow : OpenClaim := { program := "ytajphpfbihilmaa", sum := "7dbeb9e6b5015587409f8d1c5497ead82d67a157383e5df2af314e64109d829c", func := "loop.example/g01206/laws.FnExactCountReduced", spec := "fnExactCountReduced", apart := false, narrowed := true }
def FnExactCountReducedUptoSaid : Prop := fnExactCountReducedUptoRow.holds Try.pinned (OpenSpec.upto fnExactCountReducedSpec)

/-- 'laws.FnExactSetWord', WHERE WHAT IT READS IS OF BULK AT MOST 1048576: true; the input reads as it did. -/
def fnExactSetWordUptoRow : OpenClaim := { program := "ytajphpfbihilmaa", sum := "7dbeb9e6b5015587409f8d1c5497ead82d67a157383e5df2af314e64109d829c", func := "loop.example/g01206/laws.FnExactSetWord", spec := "fnExactSetWord", apart := false, narrowed := true }
def FnExactSetWordUptoSaid : Prop := fnExactSetWordUptoRow.holds Try.pinned (OpenSpec.upto fnExactSetWordSpec)

/-- 'laws.FnExactCountCyclicWords', WHERE WHAT IT READS IS OF BULK AT MOST 1048576: true; the input reads as it did. -/
def fnExactCountCyclicWordsUptoRow : OpenClaim := { program := "ytajphpfbihilmaa", sum := "7dbeb9e6b5015587409f8d1c5497ead82d67a157383e5df2af314e64109d829c", func := "loop.example/g01206/laws.FnExactCountCyclicWords", spec := "fnExactCountCyclicWords", apart := false, narrowed := true }
def FnExactCountCyclicWordsUptoSaid : Prop := fnExactCountCyclicWordsUptoRow.holds Try.pinned (OpenSpec.upto fnExactCountCyclicWordsSpec)

/-- 'laws.FnExactIsBalancedLoop', WHERE WHAT IT READS IS OF BULK AT MOST 1048576: true; the input reads as it did. -/
def fnExactIsBalancedLoopUptoRow : OpenClaim := { program := "ytajphpfbihilmaa", sum := "7dbeb9e6b5015587409f8d1c5497ead82d67a157383e5df2af314e64109d829c", func := "loop.example/g01206/laws.FnExactIsBalancedLoop", spec := "fnExactIsBalancedLoop", unfollowed := true, recurses := true, apart := false, narrowed := true }
def FnExactIsBalancedLoopUptoSaid : Prop := fnExactIsBalancedLoopUptoRow.holds Try.pinned (OpenSpec.upto fnExactIsBalancedLoopSpec)

/-- 'laws.FnExactWindingsOf', WHERE WHAT IT READS IS OF BULK AT MOST 1048576: true; the input reads as it did. -/
def fnExactWindingsOfUptoRow : OpenClaim := { program := "ytajphpfbihilmaa", sum := "7dbeb9e6b5015587409f8d1c5497ead82d67a157383e5df2af314e64109d829c", func := "loop.example/g01206/laws.FnExactWindingsOf", spec := "fnExactWindingsOf", unfollowed := true, recurses := true, apart := false, narrowed := true }
def FnExactWindingsOfUptoSaid : Prop := fnExactWindingsOfUptoRow.holds Try.pinned (OpenSpec.upto fnExactWindingsOfSpec)

/-- 'laws.FnExactKeyAt', WHERE WHAT IT READS IS OF BULK AT MOST 1048576: true; the input reads as it did. -/
def fnExactKeyAtUptoRow : OpenClaim := { program := "ytajphpfbihilmaa", sum := "7dbeb9e6b5015587409f8d1c5497ead82d67a157383e5df2af314e64109d829c", func := "loop.example/g01206/laws.FnExactKeyAt", spec := "fnExactKeyAt", unfollowed := true, recurses := true, apart := false, narrowed := true }
def FnExactKeyAtUptoSaid : Prop := fnExactKeyAtUptoRow.holds Try.pinned (OpenSpec.upto fnExactKeyAtSpec)

end Rows
end Go.Proofs.Ytajphpfbihilmaa
