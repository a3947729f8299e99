-- Written by this session's own program (wip/tools/myprint.py), over the kit's printer.
import Derived.Test.YtaeicjfkdkjplaaProg
import Derived.Below
import Derived.Deep.Draws
import Derived.Deep.AppendLies
import Derived.Maps.AppendAt
import Derived.OwnWalk
import Derived.Laws.BytesArg
import Derived.Laws.MakeOwn
import Derived.Laws.OwnMore
import Derived.Deep.OwnRows
import Derived.Tactics
import Derived.Lib.ConvBytes
import Derived.Laws.Slices
import Derived.WalkKit
import Derived.KernelRfl
import Derived.RowKit3
import Derived.Deep.LoopGhost
import Derived.Deep.QuietTactic
import Derived.BigQuiet
import Derived.WideLaws
import Derived.Deep.DeepCutAuto
import Derived.Deep.CutBlock
import Derived.Deep.RegionHeld3
import Derived.Laws.Rows
import Derived.Lib.AppendStr
import Derived.ArgAppend
import Derived.Laws.IdiomCopy
import Derived.OrdersHeld
import Derived.Laws.BitsLemmas
import Derived.RowKit
import Derived.WalkSpells
import Derived.Deep.RegionWith
import Derived.Shelf.Abstract
import Derived.Test.YtaeicjfkdkjplaaWWords
import Derived.Test.YtaeicjfkdkjplaaWLast
import Derived.Test.YtaeicjfkdkjplaaWTab
import Derived.Test.YtaeicjfkdkjplaaWFour
import Derived.Test.YtaeicjfkdkjplaaWQPut
import Derived.Test.YtaeicjfkdkjplaaWApart
import Derived.Test.YtaeicjfkdkjplaaWArr
import Derived.Test.YtaeicjfkdkjplaaWZeros
import Derived.Test.YtaeicjfkdkjplaaWFoot
import Derived.Test.YtaeicjfkdkjplaaWKept
import Derived.Test.YtaeicjfkdkjplaaWShare
import Derived.Test.YtaeicjfkdkjplaaWN
import Derived.Test.YtaeicjfkdkjplaaWFootNe
import Derived.Test.YtaeicjfkdkjplaaWAt
import Derived.Test.YtaeicjfkdkjplaaWEqStruct
import Derived.Test.YtaeicjfkdkjplaaWRepsOne
import Derived.Test.YtaeicjfkdkjplaaWInv
import Derived.Test.YtaeicjfkdkjplaaWInvWords
import Derived.Test.YtaeicjfkdkjplaaWGuard
import Derived.Test.YtaeicjfkdkjplaaWNEv
import Derived.Test.YtaeicjfkdkjplaaWMore
namespace Go.Proofs.Ytaeicjfkdkjplaa.MFnExactIsArrangement
open Go.RowKit Go.Proofs.YtaeicjfkdkjplaaW.PrintWords Go.Proofs.YtaeicjfkdkjplaaW.PrintLast Go.Proofs.YtaeicjfkdkjplaaW.PrintMore
attribute [local go_sem] max2_int min2_int max_two min_two max_three min_three max_four min_four   -- for this text's walks alone
set_option linter.unusedVariables false
set_option linter.unusedSimpArgs false



def errW : Option Int → Value
  | none => .nilIface
  | some c => .iface 0 (.int .i64 c)
theorem errW_none : errW none = .nilIface := rfl
theorem errW_some (c : Int) : errW (some c) = .iface 0 (.int .i64 c) := rfl

theorem info3 : (Try.prog.info? 3).map (fun i => (i.zero, i.size, i.bytes)) = some (some (.int .i64 0), 1, 8) := by kernel_rfl
-- the values' own types

end Go.Proofs.Ytaeicjfkdkjplaa.MFnExactIsArrangement
