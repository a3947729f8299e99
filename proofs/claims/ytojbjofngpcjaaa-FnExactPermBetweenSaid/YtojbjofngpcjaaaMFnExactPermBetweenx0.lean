-- Written by this session's own program (wip/tools/myprint.py), over the kit's printer.
import Derived.Test.YtojbjofngpcjaaaProg
import Derived.Below
import Derived.Deep.Draws
import Derived.Deep.AppendLies
import Derived.Maps.AppendAt
import Derived.OwnWalk
import Derived.Laws.BytesArg
import Derived.Laws.MakeOwn
import Derived.Laws.OwnMore
import Derived.Deep.OwnRows
import Derived.Tactics
import Derived.Lib.ConvBytes
import Derived.Laws.Slices
import Derived.WalkKit
import Derived.KernelRfl
import Derived.RowKit3
import Derived.Deep.LoopGhost
import Derived.Deep.QuietTactic
import Derived.BigQuiet
import Derived.WideLaws
import Derived.Deep.DeepCutAuto
import Derived.Deep.CutBlock
import Derived.Deep.RegionHeld3
import Derived.Laws.Rows
import Derived.Lib.AppendStr
import Derived.ArgAppend
import Derived.Laws.IdiomCopy
import Derived.OrdersHeld
import Derived.Laws.BitsLemmas
import Derived.RowKit
import Derived.WalkSpells
import Derived.Deep.RegionWith
import Derived.Shelf.Abstract
import Derived.Test.YtojbjofngpcjaaaWWords
import Derived.Test.YtojbjofngpcjaaaWLast
import Derived.Test.YtojbjofngpcjaaaWTab
import Derived.Test.YtojbjofngpcjaaaWFour
import Derived.Test.YtojbjofngpcjaaaWQPut
import Derived.Test.YtojbjofngpcjaaaWApart
import Derived.Test.YtojbjofngpcjaaaWArr
import Derived.Test.YtojbjofngpcjaaaWZeros
import Derived.Test.YtojbjofngpcjaaaWFoot
import Derived.Test.YtojbjofngpcjaaaWKept
import Derived.Test.YtojbjofngpcjaaaWShare
import Derived.Test.YtojbjofngpcjaaaWN
import Derived.Test.YtojbjofngpcjaaaWFootNe
import Derived.Test.YtojbjofngpcjaaaWAt
import Derived.Test.YtojbjofngpcjaaaWEqStruct
import Derived.Test.YtojbjofngpcjaaaWRepsOne
import Derived.Test.YtojbjofngpcjaaaWInv
import Derived.Test.YtojbjofngpcjaaaWInvWords
import Derived.Test.YtojbjofngpcjaaaWGuard
import Derived.Test.YtojbjofngpcjaaaWNEv
import Derived.Test.YtojbjofngpcjaaaWMore
namespace Go.Proofs.Ytojbjofngpcjaaa.MFnExactPermBetween
open Go.RowKit Go.Proofs.YtojbjofngpcjaaaW.PrintWords Go.Proofs.YtojbjofngpcjaaaW.PrintLast Go.Proofs.YtojbjofngpcjaaaW.PrintMore
attribute [local go_sem] max2_int min2_int max_two min_two max_three min_three max_four min_four   -- for this text's walks alone
set_option linter.unusedVariables false
set_option linter.unusedSimpArgs false



def errW : Option Int → Value
  | none => .nilIface
  | some c => .iface 0 (.int .i64 c)
theorem errW_none : errW none = .nilIface := rfl
theorem errW_some (c : Int) : errW (some c) = .iface 0 (.int .i64 c) := rfl

theorem info3 : (Try.prog.info? 3).map (fun i => (i.zero, i.size, i.bytes)) = some (some (.int .i64 0), 1, 8) := by kernel_rfl
-- the values' own types

end Go.Proofs.Ytojbjofngpcjaaa.MFnExactPermBetween
