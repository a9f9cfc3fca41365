/-
  No cell of these rows narrows 'for every input' (looked for: loops, veiled, ifaces, maps, wideKeys, modest, calm, conditions, laid).
  DERIVED. THE GIVEN ROWS OF THIS SEAT. 6 by the template 'for every input the law returns true; each argument reads behind the call as it read before'; 0 by the template 'total and deterministic' (their statements: YtlbhfbanbdahdaaTotals.lean).
  GIVEN WITH THE SEED: the statements are not yours to turn. If you find one false, say at which input.
  Laid BY PROGRAM, IN A SANDBOX (cutbox-rows.mjs): the forced cells as the released guide's own fill.sh prints them over the translation 9b5c255d43a9d64c… (all of the seat's roots in one cut). By AI agents, Wed Nov 11 2026. No macro, syntax, notation, axiom, sorry.
-/
import Derived.Test.YtlbhfbanbdahdaaChecked
import GoSem.Claim
import GoSem.ClaimJoined
import GoSem.ClaimMapViews
import Derived.JoinedTies
import Derived.KernelRfl
namespace Go.Proofs.Ytlbhfbanbdahdaa
/- THE CELL 'sum', in the pinned program and in every row, IS THE sha256 OF THE DUMP (.gsa) THAT YtlbhfbanbdahdaaProg.lean LOADS. Nothing in Lean hashes anything: it is a label: what it is worth is what the hold of that sum in a sandbox is worth. -/
noncomputable def Try.pinned : Pinned := { name := "ytlbhfbanbdahdaa", sum := "9b5c255d43a9d64cbf711b5c4b6ec9ee7fa2e2b93853337af7a56e94d1239398", checked := Try.checked }
namespace Rows
def none {H : Type} : Left H := { results := [], args := [] }

/-- 'laws.FnExactTrimWord': WHATEVER THE INPUT: true; the input reads as it did. -/
def fnExactTrimWordSpec : ChangeSpec := { name := "fnExactTrimWord", fn := fun _ => fun
  | [d] => { results := [.lit (.bool true)], args := [d] }
  | _ => none }
def fnExactTrimWordRow : OpenClaim := { program := "ytlbhfbanbdahdaa", sum := "9b5c255d43a9d64cbf711b5c4b6ec9ee7fa2e2b93853337af7a56e94d1239398", func := "loop.example/g01206/laws.FnExactTrimWord", spec := "fnExactTrimWord", unfollowed := true, recurses := true, apart := false }
def FnExactTrimWordSaid : Prop := fnExactTrimWordRow.holds Try.pinned (OpenSpec.ofChange fnExactTrimWordSpec)

/-- ITS FALSE NEIGHBOUR: 'it returns false'. Refute it at one input. -/
def fnExactTrimWordWrong : ChangeSpec := { name := "fnExactTrimWord", fn := fun _ => fun
  | [d] => { results := [.lit (.bool false)], args := [d] }
  | _ => none }
def FnExactTrimWordWrongFalsely : Prop := fnExactTrimWordRow.holds Try.pinned (OpenSpec.ofChange fnExactTrimWordWrong)

/-- 'laws.FnExactFamilyOfWord': WHATEVER THE INPUT: true; the input reads as it did. -/
def fnExactFamilyOfWordSpec : ChangeSpec := { name := "fnExactFamilyOfWord", fn := fun _ => fun
  | [d] => { results := [.lit (.bool true)], args := [d] }
  | _ => none }
def fnExactFamilyOfWordRow : OpenClaim := { program := "ytlbhfbanbdahdaa", sum := "9b5c255d43a9d64cbf711b5c4b6ec9ee7fa2e2b93853337af7a56e94d1239398", func := "loop.example/g01206/laws.FnExactFamilyOfWord", spec := "fnExactFamilyOfWord", unfollowed := true, recurses := true, apart := false }
def FnExactFamilyOfWordSaid : Prop := fnExactFamilyOfWordRow.holds Try.pinned (OpenSpec.ofChange fnExactFamilyOfWordSpec)

/-- ITS FALSE NEIGHBOUR: 'it returns false'. Refute it at one input. -/
def fnExactFamilyOfWordWrong : ChangeSpec := { name := "fnExactFamilyOfWord", fn := fun _ => fun
  | [d] => { results := [.lit (.bool false)], args := [d] }
  | _ => none }
def FnExactFamilyOfWordWrongFalsely : Prop := fnExactFamilyOfWordRow.holds Try.pinned (OpenSpec.ofChange fnExactFamilyOfWordWrong)

/-- 'laws.FnExactIsWordFor': WHATEVER THE INPUT: true; the input reads as it did. -/
def fnExactIsWordForSpec : ChangeSpec := { name := "fnExactIsWordFor", fn := fun _ => fun
  | [d1, d2] => { results := [.lit (.bool true)], args := [d1, d2] }
  | _ => none }
def fnExactIsWordForRow : OpenClaim := { program := "ytlbhfbanbdahdaa", sum := "9b5c255d43a9d64cbf711b5c4b6ec9ee7fa2e2b93853337af7a56e94d1239398", func := "loop.example/g01206/laws.FnExactIsWordFor", spec := "fnExactIsWordFor", unfollowed := true, recurses := true, apart := false }
def FnExactIsWordForSaid : Prop := fnExactIsWordForRow.holds Try.pinned (OpenSpec.ofChange fnExactIsWordForSpec)

/-- ITS FALSE NEIGHBOUR: 'it returns false'. Refute it at one input. -/
def fnExactIsWordForWrong : ChangeSpec := { name := "fnExactIsWordFor", fn := fun _ => fun
  | [d1, d2] => { results := [.lit (.bool false)], args := [d1, d2] }
  | _ => none }
def FnExactIsWordForWrongFalsely : Prop := fnExactIsWordForRow.holds Try.pinned (OpenSpec.ofChange fnExactIsWordForWrong)

/-- 'laws.FnExactShortestLike': WHATEVER THE INPUT: true; the input reads as it did. -/
def fnExactShortestLikeSpec : ChangeSpec := { name := "fnExactShortestLike", fn := fun _ => fun
  | [d1, d2] => { results := [.lit (.bool true)], args := [d1, d2] }
  | _ => none }
def fnExactShortestLikeRow : OpenClaim := { program := "ytlbhfbanbdahdaa", sum := "9b5c255d43a9d64cbf711b5c4b6ec9ee7fa2e2b93853337af7a56e94d1239398", func := "loop.example/g01206/laws.FnExactShortestLike", spec := "fnExactShortestLike", unfollowed := true, recurses := true, apart := false }
def FnExactShortestLikeSaid : Prop := fnExactShortestLikeRow.holds Try.pinned (OpenSpec.ofChange fnExactShortestLikeSpec)

/-- ITS FALSE NEIGHBOUR: 'it returns false'. Refute it at one input. -/
def fnExactShortestLikeWrong : ChangeSpec := { name := "fnExactShortestLike", fn := fun _ => fun
  | [d1, d2] => { results := [.lit (.bool false)], args := [d1, d2] }
  | _ => none }
def FnExactShortestLikeWrongFalsely : Prop := fnExactShortestLikeRow.holds Try.pinned (OpenSpec.ofChange fnExactShortestLikeWrong)

/-- 'laws.FnExactCountWith': WHATEVER THE INPUT: true; the input reads as it did. -/
def fnExactCountWithSpec : ChangeSpec := { name := "fnExactCountWith", fn := fun _ => fun
  | [d1, d2, d3] => { results := [.lit (.bool true)], args := [d1, d2, d3] }
  | _ => none }
def fnExactCountWithRow : OpenClaim := { program := "ytlbhfbanbdahdaa", sum := "9b5c255d43a9d64cbf711b5c4b6ec9ee7fa2e2b93853337af7a56e94d1239398", func := "loop.example/g01206/laws.FnExactCountWith", spec := "fnExactCountWith", unfollowed := true, recurses := true, apart := false }
def FnExactCountWithSaid : Prop := fnExactCountWithRow.holds Try.pinned (OpenSpec.ofChange fnExactCountWithSpec)

/-- ITS FALSE NEIGHBOUR: 'it returns false'. Refute it at one input. -/
def fnExactCountWithWrong : ChangeSpec := { name := "fnExactCountWith", fn := fun _ => fun
  | [d1, d2, d3] => { results := [.lit (.bool false)], args := [d1, d2, d3] }
  | _ => none }
def FnExactCountWithWrongFalsely : Prop := fnExactCountWithRow.holds Try.pinned (OpenSpec.ofChange fnExactCountWithWrong)

/-- 'laws.FnExactFirstWith': WHATEVER THE INPUT: true; the input reads as it did. -/
def fnExactFirstWithSpec : ChangeSpec := { name := "fnExactFirstWith", fn := fun _ => fun
  | [d1, d2] => { results := [.lit (.bool true)], args := [d1, d2] }
  | _ => none }
def fnExactFirstWithRow : OpenClaim := { program := "ytlbhfbanbdahdaa", sum := "9b5c255d43a9d64cbf711b5c4b6ec9ee7fa2e2b93853337af7a56e94d1239398", func := "loop.example/g01206/laws.FnExactFirstWith", spec := "fnExactFirstWith", unfollowed := true, recurses := true, apart := false }
def FnExactFirstWithSaid : Prop := fnExactFirstWithRow.holds Try.pinned (OpenSpec.ofChange fnExactFirstWithSpec)

/-- ITS FALSE NEIGHBOUR: 'it returns false'. Refute it at one input. -/
def fnExactFirstWithWrong : ChangeSpec := { name := "fnExactFirstWith", fn := fun _ => fun
  | [d1, d2] => { results := [.lit (.bool false)], args := [d1, d2] }
  | _ => none }
def FnExactFirstWithWrongFalsely : Prop := fnExactFirstWithRow.holds Try.pinned (OpenSpec.ofChange fnExactFirstWithWrong)

/- THE SECOND FORM. 'bulk': how many values and letters a reading holds, each counted each time it is reached (what is shared counts as often as it is met; a slice's spare places count too). A statement '..UptoSaid' is the law's where the arguments, and the package variables that the reading takes, are together of bulk at most 1048576: NARROWER than '..Said'. Prove '..Said' where nothing that the law and all that it calls make is longer than what came in: it says more and counts as full. Else prove '..UptoSaid'. A law counts once. -/
mutual
def uptoBulk {H : Type} : DataW H → Nat
  | .lit (.string bytes) => bytes.length + 1
  | .lit _ => 1
  | .nil => 1
  | .ptr d => uptoBulk d + 1
  | .slice elems spare => uptoBulkAll elems + uptoBulkAll spare + 1
  | .agg parts => uptoBulkAll parts + 1
  | .iface _ d => uptoBulk d + 1
  | .map entries => uptoBulkEntries entries + 1
  | .held _ => 1
def uptoBulkAll {H : Type} : List (DataW H) → Nat
  | [] => 0
  | d :: r => uptoBulk d + uptoBulkAll r
def uptoBulkEntries {H : Type} : List (Lit × DataW H) → Nat
  | [] => 0
  | x :: r => uptoBulkEntry x + uptoBulkEntries r
def uptoBulkEntry {H : Type} : Lit × DataW H → Nat
  | (.string bytes, d) => bytes.length + uptoBulk d + 1
  | (_, d) => uptoBulk d + 1
 end
def uptoSmall : (H : Type) → List (DataW H) → Bool := fun _ ds => decide (uptoBulkAll ds ≤ 1048576)
def OpenSpec.upto (s : _root_.Go.ChangeSpec) : _root_.Go.OpenSpec := { _root_.Go.OpenSpec.ofChange s with cond := some uptoSmall }

/-- 'laws.FnExactTrimWord', WHERE WHAT IT READS IS OF BULK AT MOST 1048576: true; the input reads as it did. -/
def fnExactTrimWordUptoRow : OpenClaim := { program := "ytlbhfbanbdahdaa", sum := "9b5c255d43a9d64cbf711b5c4b6ec9ee7fa2e2b93853337af7a56e94d1239398", func := "loop.example/g01206/laws.FnExactTrimWord", spec := "fnExactTrimWord", unfollowed := true, recurses := true, apart := false, narrowed := true }
def FnExactTrimWordUptoSaid : Prop := fnExactTrimWordUptoRow.holds Try.pinned (OpenSpec.upto fnExactTrimWordSpec)

/-- 'laws.FnExactFamilyOfWord', WHERE WHAT IT READS IS OF BULK AT MOST 1048576: true; the input reads as it did. -/
def fnExactFamilyOfWordUptoRow : OpenClaim := { program := "ytlbhfbanbdahdaa", sum := "9b5c255d43a9d64cbf711b5c4b6ec9ee7fa2e2b93853337af7a56e94d1239398", func := "loop.example/g01206/laws.FnExactFamilyOfWord", spec := "fnExactFamilyOfWord", unfollowed := true, recurses := true, apart := false, narrowed := true }
def FnExactFamilyOfWordUptoSaid : Prop := fnExactFamilyOfWordUptoRow.holds Try.pinned (OpenSpec.upto fnExactFamilyOfWordSpec)

/-- 'laws.FnExactIsWordFor', WHERE WHAT IT READS IS OF BULK AT MOST 1048576: true; the input reads as it did. -/
def fnExactIsWordForUptoRow : OpenClaim := { program := "ytlbhfbanbdahdaa", sum := "9b5c255d43a9d64cbf711b5c4b6ec9ee7fa2e2b93853337af7a56e94d1239398", func := "loop.example/g01206/laws.FnExactIsWordFor", spec := "fnExactIsWordFor", unfollowed := true, recurses := true, apart := false, narrowed := true }
def FnExactIsWordForUptoSaid : Prop := fnExactIsWordForUptoRow.holds Try.pinned (OpenSpec.upto fnExactIsWordForSpec)

/-- 'laws.FnExactShortestLike', WHERE WHAT IT READS IS OF BULK AT MOST 1048576: true; the input reads as it did. -/
def fnExactShortestLikeUptoRow : OpenClaim := { program := "ytlbhfbanbdahdaa", sum := "9b5c255d43a9d64cbf711b5c4b6ec9ee7fa2e2b93853337af7a56e94d1239398", func := "loop.example/g01206/laws.FnExactShortestLike", spec := "fnExactShortestLike", unfollowed := true, recurses := true, apart := false, narrowed := true }
def FnExactShortestLikeUptoSaid : Prop := fnExactShortestLikeUptoRow.holds Try.pinned (OpenSpec.upto fnExactShortestLikeSpec)

/-- 'laws.FnExactCountWith', WHERE WHAT IT READS IS OF BULK AT MOST 1048576: true; the input reads as it did. -/
def fnExactCountWithUptoRow : OpenClaim := { program := "ytlbhfbanbdahdaa", sum := "9b5c255d43a9d64cbf711b5c4b6ec9ee7fa2e2b93853337af7a56e94d1239398", func := "loop.example/g01206/laws.FnExactCountWith", spec := "fnExactCountWith", unfollowed := true, recurses := true, apart := false, narrowed := true }
def FnExactCountWithUptoSaid : Prop := fnExactCountWithUptoRow.holds Try.pinned (OpenSpec.upto fnExactCountWithSpec)

/-- 'laws.FnExactFirstWith', WHERE WHAT IT READS IS OF BULK AT MOST 1048576: true; the input reads as it did. -/
def fnExactFirstWithUptoRow : OpenClaim := { program := "ytlbhfbanbdahdaa", sum := "9b5c255d43a9d64cbf711b5c4b6ec9ee7fa2e2b93853337af7a56e94d1239398", func := "loop.example/g01206/laws.FnExactFirstWith", spec := "fnExactFirstWith", unfollowed := true, recurses := true, apart := false, narrowed := true }
def FnExactFirstWithUptoSaid : Prop := fnExactFirstWithUptoRow.holds Try.pinned (OpenSpec.upto fnExactFirstWithSpec)

end Rows
end Go.Proofs.Ytlbhfbanbdahdaa
