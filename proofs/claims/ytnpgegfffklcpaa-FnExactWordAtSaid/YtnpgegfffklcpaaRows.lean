/-
  No cell of these rows narrows 'for every input' (looked for: loops, veiled, ifaces, maps, wideKeys, modest, calm, conditions, laid).
  DERIVED. THE GIVEN ROWS OF THIS SEAT. 6 by the template 'for every input the law returns true; each argument reads behind the call as it read before'; 0 by the template 'total and deterministic' (their statements: YtnpgegfffklcpaaTotals.lean).
  GIVEN WITH THE SEED: the statements are not yours to turn. If you find one false, say at which input.
  Laid BY PROGRAM, IN A SANDBOX (cutbox-rows.mjs): the forced cells as the released guide's own fill.sh prints them over the translation c23e6f162af379aa… (all of the seat's roots in one cut). By AI agents, Wed Nov 11 2026. No macro, syntax, notation, axiom, sorry.
-/
import Derived.Test.YtnpgegfffklcpaaChecked
import GoSem.Claim
import GoSem.ClaimJoined
import GoSem.ClaimMapViews
import Derived.JoinedTies
import Derived.KernelRfl
namespace Go.Proofs.Ytnpgegfffklcpaa
/- THE CELL 'sum', in the pinned program and in every row, IS THE sha256 OF THE DUMP (.gsa) THAT YtnpgegfffklcpaaProg.lean LOADS. Nothing in Lean hashes anything: it is a label: what it is worth is what the hold of that sum in a sandbox is worth. -/
noncomputable def Try.pinned : Pinned := { name := "ytnpgegfffklcpaa", sum := "c23e6f162af379aa13c0e50055930c13e9a722b113b9e357a29032d846e84bf1", checked := Try.checked }
namespace Rows
def none {H : Type} : Left H := { results := [], args := [] }

/-- 'laws.FnExactWordsOf': WHATEVER THE INPUT: true; the input reads as it did. -/
def fnExactWordsOfSpec : ChangeSpec := { name := "fnExactWordsOf", fn := fun _ => fun
  | [d1, d2] => { results := [.lit (.bool true)], args := [d1, d2] }
  | _ => none }
def fnExactWordsOfRow : OpenClaim := { program := "ytnpgegfffklcpaa", sum := "c23e6f162af379aa13c0e50055930c13e9a722b113b9e357a29032d846e84bf1", func := "loop.example/g01206/laws.FnExactWordsOf", spec := "fnExactWordsOf", unfollowed := true, recurses := true, apart := false }
def FnExactWordsOfSaid : Prop := fnExactWordsOfRow.holds Try.pinned (OpenSpec.ofChange fnExactWordsOfSpec)

/-- ITS FALSE NEIGHBOUR: 'it returns false'. Refute it at one input. -/
def fnExactWordsOfWrong : ChangeSpec := { name := "fnExactWordsOf", fn := fun _ => fun
  | [d1, d2] => { results := [.lit (.bool false)], args := [d1, d2] }
  | _ => none }
def FnExactWordsOfWrongFalsely : Prop := fnExactWordsOfRow.holds Try.pinned (OpenSpec.ofChange fnExactWordsOfWrong)

/-- 'laws.FnExactWordAt': WHATEVER THE INPUT: true; the input reads as it did. -/
def fnExactWordAtSpec : ChangeSpec := { name := "fnExactWordAt", fn := fun _ => fun
  | [d1, d2] => { results := [.lit (.bool true)], args := [d1, d2] }
  | _ => none }
def fnExactWordAtRow : OpenClaim := { program := "ytnpgegfffklcpaa", sum := "c23e6f162af379aa13c0e50055930c13e9a722b113b9e357a29032d846e84bf1", func := "loop.example/g01206/laws.FnExactWordAt", spec := "fnExactWordAt", unfollowed := true, recurses := true, apart := false }
def FnExactWordAtSaid : Prop := fnExactWordAtRow.holds Try.pinned (OpenSpec.ofChange fnExactWordAtSpec)

/-- ITS FALSE NEIGHBOUR: 'it returns false'. Refute it at one input. -/
def fnExactWordAtWrong : ChangeSpec := { name := "fnExactWordAt", fn := fun _ => fun
  | [d1, d2] => { results := [.lit (.bool false)], args := [d1, d2] }
  | _ => none }
def FnExactWordAtWrongFalsely : Prop := fnExactWordAtRow.holds Try.pinned (OpenSpec.ofChange fnExactWordAtWrong)

/-- 'laws.FnExactRulesOf': WHATEVER THE INPUT: true; the input reads as it did. -/
def fnExactRulesOfSpec : ChangeSpec := { name := "fnExactRulesOf", fn := fun _ => fun
  | [d1, d2] => { results := [.lit (.bool true)], args := [d1, d2] }
  | _ => none }
def fnExactRulesOfRow : OpenClaim := { program := "ytnpgegfffklcpaa", sum := "c23e6f162af379aa13c0e50055930c13e9a722b113b9e357a29032d846e84bf1", func := "loop.example/g01206/laws.FnExactRulesOf", spec := "fnExactRulesOf", unfollowed := true, recurses := true, apart := false }
def FnExactRulesOfSaid : Prop := fnExactRulesOfRow.holds Try.pinned (OpenSpec.ofChange fnExactRulesOfSpec)

/-- ITS FALSE NEIGHBOUR: 'it returns false'. Refute it at one input. -/
def fnExactRulesOfWrong : ChangeSpec := { name := "fnExactRulesOf", fn := fun _ => fun
  | [d1, d2] => { results := [.lit (.bool false)], args := [d1, d2] }
  | _ => none }
def FnExactRulesOfWrongFalsely : Prop := fnExactRulesOfRow.holds Try.pinned (OpenSpec.ofChange fnExactRulesOfWrong)

/-- 'laws.FnExactNextWord': WHATEVER THE INPUT: true; the input reads as it did. -/
def fnExactNextWordSpec : ChangeSpec := { name := "fnExactNextWord", fn := fun _ => fun
  | [d1, d2] => { results := [.lit (.bool true)], args := [d1, d2] }
  | _ => none }
def fnExactNextWordRow : OpenClaim := { program := "ytnpgegfffklcpaa", sum := "c23e6f162af379aa13c0e50055930c13e9a722b113b9e357a29032d846e84bf1", func := "loop.example/g01206/laws.FnExactNextWord", spec := "fnExactNextWord", unfollowed := true, recurses := true, apart := false }
def FnExactNextWordSaid : Prop := fnExactNextWordRow.holds Try.pinned (OpenSpec.ofChange fnExactNextWordSpec)

/-- ITS FALSE NEIGHBOUR: 'it returns false'. Refute it at one input. -/
def fnExactNextWordWrong : ChangeSpec := { name := "fnExactNextWord", fn := fun _ => fun
  | [d1, d2] => { results := [.lit (.bool false)], args := [d1, d2] }
  | _ => none }
def FnExactNextWordWrongFalsely : Prop := fnExactNextWordRow.holds Try.pinned (OpenSpec.ofChange fnExactNextWordWrong)

/-- 'laws.FnExactRankWord': WHATEVER THE INPUT: true; the input reads as it did. -/
def fnExactRankWordSpec : ChangeSpec := { name := "fnExactRankWord", fn := fun _ => fun
  | [d1, d2] => { results := [.lit (.bool true)], args := [d1, d2] }
  | _ => none }
def fnExactRankWordRow : OpenClaim := { program := "ytnpgegfffklcpaa", sum := "c23e6f162af379aa13c0e50055930c13e9a722b113b9e357a29032d846e84bf1", func := "loop.example/g01206/laws.FnExactRankWord", spec := "fnExactRankWord", unfollowed := true, recurses := true, apart := false }
def FnExactRankWordSaid : Prop := fnExactRankWordRow.holds Try.pinned (OpenSpec.ofChange fnExactRankWordSpec)

/-- ITS FALSE NEIGHBOUR: 'it returns false'. Refute it at one input. -/
def fnExactRankWordWrong : ChangeSpec := { name := "fnExactRankWord", fn := fun _ => fun
  | [d1, d2] => { results := [.lit (.bool false)], args := [d1, d2] }
  | _ => none }
def FnExactRankWordWrongFalsely : Prop := fnExactRankWordRow.holds Try.pinned (OpenSpec.ofChange fnExactRankWordWrong)

/-- 'laws.FnExactCountClasses': WHATEVER THE INPUT: true; the input reads as it did. -/
def fnExactCountClassesSpec : ChangeSpec := { name := "fnExactCountClasses", fn := fun _ => fun
  | [d1, d2] => { results := [.lit (.bool true)], args := [d1, d2] }
  | _ => none }
def fnExactCountClassesRow : OpenClaim := { program := "ytnpgegfffklcpaa", sum := "c23e6f162af379aa13c0e50055930c13e9a722b113b9e357a29032d846e84bf1", func := "loop.example/g01206/laws.FnExactCountClasses", spec := "fnExactCountClasses", unfollowed := true, recurses := true, apart := false }
def FnExactCountClassesSaid : Prop := fnExactCountClassesRow.holds Try.pinned (OpenSpec.ofChange fnExactCountClassesSpec)

/-- ITS FALSE NEIGHBOUR: 'it returns false'. Refute it at one input. -/
def fnExactCountClassesWrong : ChangeSpec := { name := "fnExactCountClasses", fn := fun _ => fun
  | [d1, d2] => { results := [.lit (.bool false)], args := [d1, d2] }
  | _ => none }
def FnExactCountClassesWrongFalsely : Prop := fnExactCountClassesRow.holds Try.pinned (OpenSpec.ofChange fnExactCountClassesWrong)

/- THE SECOND FORM. 'bulk': how many values and letters a reading holds, each counted each time it is reached (what is shared counts as often as it is met; a slice's spare places count too). A statement '..UptoSaid' is the law's where the arguments, and the package variables that the reading takes, are together of bulk at most 1048576: NARROWER than '..Said'. Prove '..Said' where nothing that the law and all that it calls make is longer than what came in: it says more and counts as full. Else prove '..UptoSaid'. A law counts once. -/
mutual
def uptoBulk {H : Type} : DataW H → Nat
  | .lit (.string bytes) => bytes.length + 1
  | .lit _ => 1
  | .nil => 1
  | .ptr d => uptoBulk d + 1
  | .slice elems spare => uptoBulkAll elems + uptoBulkAll spare + 1
  | .agg parts => uptoBulkAll parts + 1
  | .iface _ d => uptoBulk d + 1
  | .map entries => uptoBulkEntries entries + 1
  | .held _ => 1
def uptoBulkAll {H : Type} : List (DataW H) → Nat
  | [] => 0
  | d :: r => uptoBulk d + uptoBulkAll r
def uptoBulkEntries {H : Type} : List (Lit × DataW H) → Nat
  | [] => 0
  | x :: r => uptoBulkEntry x + uptoBulkEntries r
def uptoBulkEntry {H : Type} : Lit × DataW H → Nat
  | (.string bytes, d) => bytes.length + uptoBulk d + 1
  | (_, d) => uptoBulk d + 1
 end
def uptoSmall : (H : Type) → List (DataW H) → Bool := fun _ ds => decide (uptoBulkAll ds ≤ 1048576)
def OpenSpec.upto (s : _root_.Go.ChangeSpec) : _root_.Go.OpenSpec := { _root_.Go.OpenSpec.ofChange s with cond := some uptoSmall }

/-- 'laws.FnExactWordsOf', WHERE WHAT IT READS IS OF BULK AT MOST 1048576: true; the input reads as it did. -/
def fnExactWordsOfUptoRow : OpenClaim := { program := "ytnpgegfffklcpaa", sum := "c23e6f162af379aa13c0e50055930c13e9a722b113b9e357a29032d846e84bf1", func := "loop.example/g01206/laws.FnExactWordsOf", spec := "fnExactWordsOf", unfollowed := true, recurses := true, apart := false, narrowed := true }
def FnExactWordsOfUptoSaid : Prop := fnExactWordsOfUptoRow.holds Try.pinned (OpenSpec.upto fnExactWordsOfSpec)

/-- 'laws.FnExactWordAt', WHERE WHAT IT READS IS OF BULK AT MOST 1048576: true; the input reads as it did. -/
def fnExactWordAtUptoRow : OpenClaim := { program := "ytnpgegfffklcpaa", sum := "c23e6f162af379aa13c0e50055930c13e9a722b113b9e357a29032d846e84bf1", func := "loop.example/g01206/laws.FnExactWordAt", spec := "fnExactWordAt", unfollowed := true, recurses := true, apart := false, narrowed := true }
def FnExactWordAtUptoSaid : Prop := fnExactWordAtUptoRow.holds Try.pinned (OpenSpec.upto fnExactWordAtSpec)

/-- 'laws.FnExactRulesOf', WHERE WHAT IT READS IS OF BULK AT MOST 1048576: true; the input reads as it did. -/
def fnExactRulesOfUptoRow : OpenClaim := { program := "ytnpgegfffklcpaa", sum := "c23e6f162af379aa13c0e50055930c13e9a722b113b9e357a29032d846e84bf1", func := "loop.example/g01206/laws.FnExactRulesOf", spec := "fnExactRulesOf", unfollowed := true, recurses := true, apart := false, narrowed := true }
def FnExactRulesOfUptoSaid : Prop := fnExactRulesOfUptoRow.holds Try.pinned (OpenSpec.upto fnExactRulesOfSpec)

/-- 'laws.FnExactNextWord', WHERE WHAT IT READS IS OF BULK AT MOST 1048576: true; the input reads as it did. -/
def fnExactNextWordUptoRow : OpenClaim := { program := "ytnpgegfffklcpaa", sum := "c23e6f162af379aa13c0e50055930c13e9a722b113b9e357a29032d846e84bf1", func := "loop.example/g01206/laws.FnExactNextWord", spec := "fnExactNextWord", unfollowed := true, recurses := true, apart := false, narrowed := true }
def FnExactNextWordUptoSaid : Prop := fnExactNextWordUptoRow.holds Try.pinned (OpenSpec.upto fnExactNextWordSpec)

/-- 'laws.FnExactRankWord', WHERE WHAT IT READS IS OF BULK AT MOST 1048576: true; the input reads as it did. -/
def fnExactRankWordUptoRow : OpenClaim := { program := "ytnpgegfffklcpaa", sum := "c23e6f162af379aa13c0e50055930c13e9a722b113b9e357a29032d846e84bf1", func := "loop.example/g01206/laws.FnExactRankWord", spec := "fnExactRankWord", unfollowed := true, recurses := true, apart := false, narrowed := true }
def FnExactRankWordUptoSaid : Prop := fnExactRankWordUptoRow.holds Try.pinned (OpenSpec.upto fnExactRankWordSpec)

/-- 'laws.FnExactCountClasses', WHERE WHAT IT READS IS OF BULK AT MOST 1048576: true; the input reads as it did. -/
def fnExactCountClassesUptoRow : OpenClaim := { program := "ytnpgegfffklcpaa", sum := "c23e6f162af379aa13c0e50055930c13e9a722b113b9e357a29032d846e84bf1", func := "loop.example/g01206/laws.FnExactCountClasses", spec := "fnExactCountClasses", unfollowed := true, recurses := true, apart := false, narrowed := true }
def FnExactCountClassesUptoSaid : Prop := fnExactCountClassesUptoRow.holds Try.pinned (OpenSpec.upto fnExactCountClassesSpec)

end Rows
end Go.Proofs.Ytnpgegfffklcpaa
