/-
  No cell of these rows narrows 'for every input' (looked for: loops, veiled, ifaces, maps, wideKeys, modest, calm, conditions, laid).
  DERIVED. THE GIVEN ROWS OF THIS SEAT. 7 by the template 'for every input the law returns true; each argument reads behind the call as it read before'; 0 by the template 'total and deterministic' (their statements: YtbnhnmcbaacdiaaTotals.lean).
  GIVEN WITH THE SEED: the statements are not yours to turn. If you find one false, say at which input.
  Laid BY PROGRAM, IN A SANDBOX (cutbox-rows.mjs): the forced cells as the released guide's own fill.sh prints them over the translation 8812c8ff462e9635… (all of the seat's roots in one cut). By AI agents, Wed Nov 11 2026. No macro, syntax, notation, axiom, sorry.
-/
import Derived.Test.YtbnhnmcbaacdiaaChecked
import GoSem.Claim
import GoSem.ClaimJoined
import GoSem.ClaimMapViews
import Derived.JoinedTies
import Derived.KernelRfl
namespace Go.Proofs.Ytbnhnmcbaacdiaa
/- THE CELL 'sum', in the pinned program and in every row, IS THE sha256 OF THE DUMP (.gsa) THAT YtbnhnmcbaacdiaaProg.lean LOADS. Nothing in Lean hashes anything: it is a label: what it is worth is what the hold of that sum in a sandbox is worth. -/
noncomputable def Try.pinned : Pinned := { name := "ytbnhnmcbaacdiaa", sum := "8812c8ff462e96350a8230801b71540e428eb82c68ce736948d35af51adf7a2c", checked := Try.checked }
namespace Rows
def none {H : Type} : Left H := { results := [], args := [] }

/-- 'laws.FnExactPlayNails': WHATEVER THE INPUT: true; the input reads as it did. -/
def fnExactPlayNailsSpec : ChangeSpec := { name := "fnExactPlayNails", fn := fun _ => fun
  | [d1, d2, d3, d4] => { results := [.lit (.bool true)], args := [d1, d2, d3, d4] }
  | _ => none }
def fnExactPlayNailsRow : OpenClaim := { program := "ytbnhnmcbaacdiaa", sum := "8812c8ff462e96350a8230801b71540e428eb82c68ce736948d35af51adf7a2c", func := "loop.example/g01206/laws.FnExactPlayNails", spec := "fnExactPlayNails", unfollowed := true, recurses := true, apart := false }
def FnExactPlayNailsSaid : Prop := fnExactPlayNailsRow.holds Try.pinned (OpenSpec.ofChange fnExactPlayNailsSpec)

/-- ITS FALSE NEIGHBOUR: 'it returns false'. Refute it at one input. -/
def fnExactPlayNailsWrong : ChangeSpec := { name := "fnExactPlayNails", fn := fun _ => fun
  | [d1, d2, d3, d4] => { results := [.lit (.bool false)], args := [d1, d2, d3, d4] }
  | _ => none }
def FnExactPlayNailsWrongFalsely : Prop := fnExactPlayNailsRow.holds Try.pinned (OpenSpec.ofChange fnExactPlayNailsWrong)

/-- 'laws.FnExactCanDrop': WHATEVER THE INPUT: true; the input reads as it did. -/
def fnExactCanDropSpec : ChangeSpec := { name := "fnExactCanDrop", fn := fun _ => fun
  | [d1, d2, d3] => { results := [.lit (.bool true)], args := [d1, d2, d3] }
  | _ => none }
def fnExactCanDropRow : OpenClaim := { program := "ytbnhnmcbaacdiaa", sum := "8812c8ff462e96350a8230801b71540e428eb82c68ce736948d35af51adf7a2c", func := "loop.example/g01206/laws.FnExactCanDrop", spec := "fnExactCanDrop", unfollowed := true, recurses := true, apart := false }
def FnExactCanDropSaid : Prop := fnExactCanDropRow.holds Try.pinned (OpenSpec.ofChange fnExactCanDropSpec)

/-- ITS FALSE NEIGHBOUR: 'it returns false'. Refute it at one input. -/
def fnExactCanDropWrong : ChangeSpec := { name := "fnExactCanDrop", fn := fun _ => fun
  | [d1, d2, d3] => { results := [.lit (.bool false)], args := [d1, d2, d3] }
  | _ => none }
def FnExactCanDropWrongFalsely : Prop := fnExactCanDropRow.holds Try.pinned (OpenSpec.ofChange fnExactCanDropWrong)

/-- 'laws.FnExactCanKeep': WHATEVER THE INPUT: true; the input reads as it did. -/
def fnExactCanKeepSpec : ChangeSpec := { name := "fnExactCanKeep", fn := fun _ => fun
  | [d1, d2, d3] => { results := [.lit (.bool true)], args := [d1, d2, d3] }
  | _ => none }
def fnExactCanKeepRow : OpenClaim := { program := "ytbnhnmcbaacdiaa", sum := "8812c8ff462e96350a8230801b71540e428eb82c68ce736948d35af51adf7a2c", func := "loop.example/g01206/laws.FnExactCanKeep", spec := "fnExactCanKeep", unfollowed := true, recurses := true, apart := false }
def FnExactCanKeepSaid : Prop := fnExactCanKeepRow.holds Try.pinned (OpenSpec.ofChange fnExactCanKeepSpec)

/-- ITS FALSE NEIGHBOUR: 'it returns false'. Refute it at one input. -/
def fnExactCanKeepWrong : ChangeSpec := { name := "fnExactCanKeep", fn := fun _ => fun
  | [d1, d2, d3] => { results := [.lit (.bool false)], args := [d1, d2, d3] }
  | _ => none }
def FnExactCanKeepWrongFalsely : Prop := fnExactCanKeepRow.holds Try.pinned (OpenSpec.ofChange fnExactCanKeepWrong)

/-- 'laws.FnExactSafeNails': WHATEVER THE INPUT: true; the input reads as it did. -/
def fnExactSafeNailsSpec : ChangeSpec := { name := "fnExactSafeNails", fn := fun _ => fun
  | [d1, d2, d3] => { results := [.lit (.bool true)], args := [d1, d2, d3] }
  | _ => none }
def fnExactSafeNailsRow : OpenClaim := { program := "ytbnhnmcbaacdiaa", sum := "8812c8ff462e96350a8230801b71540e428eb82c68ce736948d35af51adf7a2c", func := "loop.example/g01206/laws.FnExactSafeNails", spec := "fnExactSafeNails", unfollowed := true, recurses := true, apart := false }
def FnExactSafeNailsSaid : Prop := fnExactSafeNailsRow.holds Try.pinned (OpenSpec.ofChange fnExactSafeNailsSpec)

/-- ITS FALSE NEIGHBOUR: 'it returns false'. Refute it at one input. -/
def fnExactSafeNailsWrong : ChangeSpec := { name := "fnExactSafeNails", fn := fun _ => fun
  | [d1, d2, d3] => { results := [.lit (.bool false)], args := [d1, d2, d3] }
  | _ => none }
def FnExactSafeNailsWrongFalsely : Prop := fnExactSafeNailsRow.holds Try.pinned (OpenSpec.ofChange fnExactSafeNailsWrong)

/-- 'laws.FnExactLongestGame': WHATEVER THE INPUT: true; the input reads as it did. -/
def fnExactLongestGameSpec : ChangeSpec := { name := "fnExactLongestGame", fn := fun _ => fun
  | [d1, d2, d3] => { results := [.lit (.bool true)], args := [d1, d2, d3] }
  | _ => none }
def fnExactLongestGameRow : OpenClaim := { program := "ytbnhnmcbaacdiaa", sum := "8812c8ff462e96350a8230801b71540e428eb82c68ce736948d35af51adf7a2c", func := "loop.example/g01206/laws.FnExactLongestGame", spec := "fnExactLongestGame", unfollowed := true, recurses := true, apart := false }
def FnExactLongestGameSaid : Prop := fnExactLongestGameRow.holds Try.pinned (OpenSpec.ofChange fnExactLongestGameSpec)

/-- ITS FALSE NEIGHBOUR: 'it returns false'. Refute it at one input. -/
def fnExactLongestGameWrong : ChangeSpec := { name := "fnExactLongestGame", fn := fun _ => fun
  | [d1, d2, d3] => { results := [.lit (.bool false)], args := [d1, d2, d3] }
  | _ => none }
def FnExactLongestGameWrongFalsely : Prop := fnExactLongestGameRow.holds Try.pinned (OpenSpec.ofChange fnExactLongestGameWrong)

/-- 'laws.FnExactShortestGame': WHATEVER THE INPUT: true; the input reads as it did. -/
def fnExactShortestGameSpec : ChangeSpec := { name := "fnExactShortestGame", fn := fun _ => fun
  | [d1, d2, d3] => { results := [.lit (.bool true)], args := [d1, d2, d3] }
  | _ => none }
def fnExactShortestGameRow : OpenClaim := { program := "ytbnhnmcbaacdiaa", sum := "8812c8ff462e96350a8230801b71540e428eb82c68ce736948d35af51adf7a2c", func := "loop.example/g01206/laws.FnExactShortestGame", spec := "fnExactShortestGame", unfollowed := true, recurses := true, apart := false }
def FnExactShortestGameSaid : Prop := fnExactShortestGameRow.holds Try.pinned (OpenSpec.ofChange fnExactShortestGameSpec)

/-- ITS FALSE NEIGHBOUR: 'it returns false'. Refute it at one input. -/
def fnExactShortestGameWrong : ChangeSpec := { name := "fnExactShortestGame", fn := fun _ => fun
  | [d1, d2, d3] => { results := [.lit (.bool false)], args := [d1, d2, d3] }
  | _ => none }
def FnExactShortestGameWrongFalsely : Prop := fnExactShortestGameRow.holds Try.pinned (OpenSpec.ofChange fnExactShortestGameWrong)

/-- 'laws.FnExactDropMoves': WHATEVER THE INPUT: true; the input reads as it did. -/
def fnExactDropMovesSpec : ChangeSpec := { name := "fnExactDropMoves", fn := fun _ => fun
  | [d1, d2, d3] => { results := [.lit (.bool true)], args := [d1, d2, d3] }
  | _ => none }
def fnExactDropMovesRow : OpenClaim := { program := "ytbnhnmcbaacdiaa", sum := "8812c8ff462e96350a8230801b71540e428eb82c68ce736948d35af51adf7a2c", func := "loop.example/g01206/laws.FnExactDropMoves", spec := "fnExactDropMoves", unfollowed := true, recurses := true, apart := false }
def FnExactDropMovesSaid : Prop := fnExactDropMovesRow.holds Try.pinned (OpenSpec.ofChange fnExactDropMovesSpec)

/-- ITS FALSE NEIGHBOUR: 'it returns false'. Refute it at one input. -/
def fnExactDropMovesWrong : ChangeSpec := { name := "fnExactDropMoves", fn := fun _ => fun
  | [d1, d2, d3] => { results := [.lit (.bool false)], args := [d1, d2, d3] }
  | _ => none }
def FnExactDropMovesWrongFalsely : Prop := fnExactDropMovesRow.holds Try.pinned (OpenSpec.ofChange fnExactDropMovesWrong)

/- THE SECOND FORM. 'bulk': how many values and letters a reading holds, each counted each time it is reached (what is shared counts as often as it is met; a slice's spare places count too). A statement '..UptoSaid' is the law's where the arguments, and the package variables that the reading takes, are together of bulk at most 1048576: NARROWER than '..Said'. Prove '..Said' where nothing that the law and all that it calls make is longer than what came in: it says more and counts as full. Else prove '..UptoSaid'. A law counts once. -/
mutual
def uptoBulk {H : Type} : DataW H → Nat
  | .lit (.string bytes) => bytes.length + 1
  | .lit _ => 1
  | .nil => 1
  | .ptr d => uptoBulk d + 1
  | .slice elems spare => uptoBulkAll elems + uptoBulkAll spare + 1
  | .agg parts => uptoBulkAll parts + 1
  | .iface _ d => uptoBulk d + 1
  | .map entries => uptoBulkEntries entries + 1
  | .held _ => 1
def uptoBulkAll {H : Type} : List (DataW H) → Nat
  | [] => 0
  | d :: r => uptoBulk d + uptoBulkAll r
def uptoBulkEntries {H : Type} : List (Lit × DataW H) → Nat
  | [] => 0
  | x :: r => uptoBulkEntry x + uptoBulkEntries r
def uptoBulkEntry {H : Type} : Lit × DataW H → Nat
  | (.string bytes, d) => bytes.length + uptoBulk d + 1
  | (_, d) => uptoBulk d + 1
 end
def uptoSmall : (H : Type) → List (DataW H) → Bool := fun _ ds => decide (uptoBulkAll ds ≤ 1048576)
def OpenSpec.upto (s : _root_.Go.ChangeSpec) : _root_.Go.OpenSpec := { _root_.Go.OpenSpec.ofChange s with cond := some uptoSmall }

/-- 'laws.FnExactPlayNails', WHERE WHAT IT READS IS OF BULK AT MOST 1048576: true; the input reads as it did. -/
def fnExactPlayNailsUptoRow : OpenClaim := { program := "ytbnhnmcbaacdiaa", sum := "8812c8ff462e96350a8230801b71540e428eb82c68ce736948d35af51adf7a2c", func := "loop.example/g01206/laws.FnExactPlayNails", spec := "fnExactPlayNails", unfollowed := true, recurses := true, apart := false, narrowed := true }
def FnExactPlayNailsUptoSaid : Prop := fnExactPlayNailsUptoRow.holds Try.pinned (OpenSpec.upto fnExactPlayNailsSpec)

/-- 'laws.FnExactCanDrop', WHERE WHAT IT READS IS OF BULK AT MOST 1048576: true; the input reads as it did. -/
def fnExactCanDropUptoRow : OpenClaim := { program := "ytbnhnmcbaacdiaa", sum := "8812c8ff462e96350a8230801b71540e428eb82c68ce736948d35af51adf7a2c", func := "loop.example/g01206/laws.FnExactCanDrop", spec := "fnExactCanDrop", unfollowed := true, recurses := true, apart := false, narrowed := true }
def FnExactCanDropUptoSaid : Prop := fnExactCanDropUptoRow.holds Try.pinned (OpenSpec.upto fnExactCanDropSpec)

/-- 'laws.FnExactCanKeep', WHERE WHAT IT READS IS OF BULK AT MOST 1048576: true; the input reads as it did. -/
def fnExactCanKeepUptoRow : OpenClaim := { program := "ytbnhnmcbaacdiaa", sum := "8812c8ff462e96350a8230801b71540e428eb82c68ce736948d35af51adf7a2c", func := "loop.example/g01206/laws.FnExactCanKeep", spec := "fnExactCanKeep", unfollowed := true, recurses := true, apart := false, narrowed := true }
def FnExactCanKeepUptoSaid : Prop := fnExactCanKeepUptoRow.holds Try.pinned (OpenSpec.upto fnExactCanKeepSpec)

/-- 'laws.FnExactSafeNails', WHERE WHAT IT READS IS OF BULK AT MOST 1048576: true; the input reads as it did. -/
def fnExactSafeNailsUptoRow : OpenClaim := { program := "ytbnhnmcbaacdiaa", sum := "8812c8ff462e96350a8230801b71540e428eb82c68ce736948d35af51adf7a2c", func := "loop.example/g01206/laws.FnExactSafeNails", spec := "fnExactSafeNails", unfollowed := true, recurses := true, apart := false, narrowed := true }
def FnExactSafeNailsUptoSaid : Prop := fnExactSafeNailsUptoRow.holds Try.pinned (OpenSpec.upto fnExactSafeNailsSpec)

/-- 'laws.FnExactLongestGame', WHERE WHAT IT READS IS OF BULK AT MOST 1048576: true; the input reads as it did. -/
def fnExactLongestGameUptoRow : OpenClaim := { program := "ytbnhnmcbaacdiaa", sum := "8812c8ff462e96350a8230801b71540e428eb82c68ce736948d35af51adf7a2c", func := "loop.example/g01206/laws.FnExactLongestGame", spec := "fnExactLongestGame", unfollowed := true, recurses := true, apart := false, narrowed := true }
def FnExactLongestGameUptoSaid : Prop := fnExactLongestGameUptoRow.holds Try.pinned (OpenSpec.upto fnExactLongestGameSpec)

/-- 'laws.FnExactShortestGame', WHERE WHAT IT READS IS OF BULK AT MOST 1048576: true; the input reads as it did. -/
def fnExactShortestGameUptoRow : OpenClaim := { program := "ytbnhnmcbaacdiaa", sum := "8812c8ff462e96350a8230801b71540e428eb82c68ce736948d35af51adf7a2c", func := "loop.example/g01206/laws.FnExactShortestGame", spec := "fnExactShortestGame", unfollowed := true, recurses := true, apart := false, narrowed := true }
def FnExactShortestGameUptoSaid : Prop := fnExactShortestGameUptoRow.holds Try.pinned (OpenSpec.upto fnExactShortestGameSpec)

/-- 'laws.FnExactDropMoves', WHERE WHAT IT READS IS OF BULK AT MOST 1048576: true; the input reads as it did. -/
def fnExactDropMovesUptoRow : OpenClaim := { program := "ytbnhnmcbaacdiaa", sum := "8812c8ff462e96350a8230801b71540e428eb82c68ce736948d35af51adf7a2c", func := "loop.example/g01206/laws.FnExactDropMoves", spec := "fnExactDropMoves", unfollowed := true, recurses := true, apart := false, narrowed := true }
def FnExactDropMovesUptoSaid : Prop := fnExactDropMovesUptoRow.holds Try.pinned (OpenSpec.upto fnExactDropMovesSpec)

end Rows
end Go.Proofs.Ytbnhnmcbaacdiaa
