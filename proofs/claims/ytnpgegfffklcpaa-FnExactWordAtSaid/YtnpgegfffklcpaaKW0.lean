-- Written for this claim by a program of this session's own (wip/mkprint.py over the kit's printer), not by hand.
import Derived.Test.YtnpgegfffklcpaaProg
import Derived.Below
import Derived.Deep.Draws
import Derived.Deep.AppendLies
import Derived.Maps.AppendAt
import Derived.OwnWalk
import Derived.Laws.BytesArg
import Derived.Laws.MakeOwn
import Derived.Laws.OwnMore
import Derived.Deep.OwnRows
import Derived.Tactics
import Derived.Lib.ConvBytes
import Derived.Laws.Slices
import Derived.WalkKit
import Derived.KernelRfl
import Derived.RowKit3
import Derived.Deep.LoopGhost
import Derived.Deep.QuietTactic
import Derived.BigQuiet
import Derived.WideLaws
import Derived.Deep.DeepCutAuto
import Derived.Deep.CutBlock
import Derived.Deep.RegionHeld3
import Derived.Laws.Rows
import Derived.Lib.AppendStr
import Derived.ArgAppend
import Derived.Laws.IdiomCopy
import Derived.OrdersHeld
import Derived.Laws.BitsLemmas
import Derived.RowKit
import Derived.Test.YtnpgegfffklcpaaWWords
import Derived.Test.YtnpgegfffklcpaaWLast
import Derived.Test.YtnpgegfffklcpaaWTab
import Derived.Test.YtnpgegfffklcpaaWFour
import Derived.Test.YtnpgegfffklcpaaWQPut
import Derived.Test.YtnpgegfffklcpaaWApart
import Derived.Test.YtnpgegfffklcpaaWArr
import Derived.Test.YtnpgegfffklcpaaWZeros
import Derived.Test.YtnpgegfffklcpaaWFoot
import Derived.Test.YtnpgegfffklcpaaWKept
import Derived.Test.YtnpgegfffklcpaaWShare
import Derived.Test.YtnpgegfffklcpaaWN
import Derived.Test.YtnpgegfffklcpaaWFootNe
import Derived.Test.YtnpgegfffklcpaaWAt
import Derived.Test.YtnpgegfffklcpaaWEqStruct
import Derived.Test.YtnpgegfffklcpaaWRepsOne
import Derived.Test.YtnpgegfffklcpaaWInv
import Derived.Test.YtnpgegfffklcpaaWInvWords
import Derived.Test.YtnpgegfffklcpaaWGuard
import Derived.Test.YtnpgegfffklcpaaWNEv
import Derived.Test.YtnpgegfffklcpaaWMore
import Derived.Test.YtnpgegfffklcpaaGKW
import Derived.Test.YtnpgegfffklcpaaLT
namespace Go.Proofs.Ytnpgegfffklcpaa.KW
open Go.RowKit Go.Proofs.YtnpgegfffklcpaaW.PrintWords Go.Proofs.YtnpgegfffklcpaaW.PrintLast Go.Proofs.YtnpgegfffklcpaaW.PrintMore
attribute [local go_sem] max2_int min2_int max_two min_two max_three min_three max_four min_four   -- for this text's walks alone
set_option linter.unusedVariables false
set_option linter.unusedSimpArgs false



def errW : Option Int → Value
  | none => .nilIface
  | some c => .iface 0 (.int .i64 c)
theorem errW_none : errW none = .nilIface := rfl
theorem errW_some (c : Int) : errW (some c) = .iface 0 (.int .i64 c) := rfl

theorem info3 : (Try.prog.info? 3).map (fun i => (i.zero, i.size, i.bytes)) = some (some (.int .i64 0), 1, 8) := by kernel_rfl
-- the values' own types

end Go.Proofs.Ytnpgegfffklcpaa.KW
