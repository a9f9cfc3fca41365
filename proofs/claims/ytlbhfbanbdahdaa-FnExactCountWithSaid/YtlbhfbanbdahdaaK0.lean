-- Written for this claim by a program of this session's own (wip/mkprint.py over the kit's printer), not by hand.
import Derived.Test.YtlbhfbanbdahdaaProg
import Derived.Below
import Derived.Deep.Draws
import Derived.Deep.AppendLies
import Derived.Maps.AppendAt
import Derived.OwnWalk
import Derived.Laws.BytesArg
import Derived.Laws.MakeOwn
import Derived.Laws.OwnMore
import Derived.Deep.OwnRows
import Derived.Tactics
import Derived.Lib.ConvBytes
import Derived.Laws.Slices
import Derived.WalkKit
import Derived.KernelRfl
import Derived.RowKit3
import Derived.Deep.LoopGhost
import Derived.Deep.QuietTactic
import Derived.BigQuiet
import Derived.WideLaws
import Derived.Deep.DeepCutAuto
import Derived.Deep.CutBlock
import Derived.Deep.RegionHeld3
import Derived.Laws.Rows
import Derived.Lib.AppendStr
import Derived.ArgAppend
import Derived.Laws.IdiomCopy
import Derived.OrdersHeld
import Derived.Laws.BitsLemmas
import Derived.RowKit
import Derived.Test.YtlbhfbanbdahdaaWWords
import Derived.Test.YtlbhfbanbdahdaaWLast
import Derived.Test.YtlbhfbanbdahdaaWTab
import Derived.Test.YtlbhfbanbdahdaaWFour
import Derived.Test.YtlbhfbanbdahdaaWQPut
import Derived.Test.YtlbhfbanbdahdaaWApart
import Derived.Test.YtlbhfbanbdahdaaWArr
import Derived.Test.YtlbhfbanbdahdaaWZeros
import Derived.Test.YtlbhfbanbdahdaaWFoot
import Derived.Test.YtlbhfbanbdahdaaWKept
import Derived.Test.YtlbhfbanbdahdaaWShare
import Derived.Test.YtlbhfbanbdahdaaWN
import Derived.Test.YtlbhfbanbdahdaaWFootNe
import Derived.Test.YtlbhfbanbdahdaaWAt
import Derived.Test.YtlbhfbanbdahdaaWEqStruct
import Derived.Test.YtlbhfbanbdahdaaWRepsOne
import Derived.Test.YtlbhfbanbdahdaaWInv
import Derived.Test.YtlbhfbanbdahdaaWInvWords
import Derived.Test.YtlbhfbanbdahdaaWGuard
import Derived.Test.YtlbhfbanbdahdaaWNEv
import Derived.Test.YtlbhfbanbdahdaaWMore
namespace Go.Proofs.Ytlbhfbanbdahdaa.K
open Go.RowKit Go.Proofs.YtlbhfbanbdahdaaW.PrintWords Go.Proofs.YtlbhfbanbdahdaaW.PrintLast Go.Proofs.YtlbhfbanbdahdaaW.PrintMore
attribute [local go_sem] max2_int min2_int max_two min_two max_three min_three max_four min_four   -- for this text's walks alone
set_option linter.unusedVariables false
set_option linter.unusedSimpArgs false



def errW : Option Int → Value
  | none => .nilIface
  | some c => .iface 0 (.int .i64 c)
theorem errW_none : errW none = .nilIface := rfl
theorem errW_some (c : Int) : errW (some c) = .iface 0 (.int .i64 c) := rfl

theorem info3 : (Try.prog.info? 3).map (fun i => (i.zero, i.size, i.bytes)) = some (some (.int .i64 0), 1, 8) := by kernel_rfl
-- the values' own types

end Go.Proofs.Ytlbhfbanbdahdaa.K
