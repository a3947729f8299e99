-- Written by this session's own program (wip/tools/myprint.py), over the kit's printer.
import Derived.Test.YtplacpfdmcnaiaaProg
import Derived.Below
import Derived.Deep.Draws
import Derived.Deep.AppendLies
import Derived.Maps.AppendAt
import Derived.OwnWalk
import Derived.Laws.BytesArg
import Derived.Laws.MakeOwn
import Derived.Laws.OwnMore
import Derived.Deep.OwnRows
import Derived.Tactics
import Derived.Lib.ConvBytes
import Derived.Laws.Slices
import Derived.WalkKit
import Derived.KernelRfl
import Derived.RowKit3
import Derived.Deep.LoopGhost
import Derived.Deep.QuietTactic
import Derived.BigQuiet
import Derived.WideLaws
import Derived.Deep.DeepCutAuto
import Derived.Deep.CutBlock
import Derived.Deep.RegionHeld3
import Derived.Laws.Rows
import Derived.Lib.AppendStr
import Derived.ArgAppend
import Derived.Laws.IdiomCopy
import Derived.OrdersHeld
import Derived.Laws.BitsLemmas
import Derived.RowKit
import Derived.WalkSpells
import Derived.Deep.RegionWith
import Derived.Shelf.Abstract
import Derived.Test.YtplacpfdmcnaiaaWWords
import Derived.Test.YtplacpfdmcnaiaaWLast
import Derived.Test.YtplacpfdmcnaiaaWTab
import Derived.Test.YtplacpfdmcnaiaaWFour
import Derived.Test.YtplacpfdmcnaiaaWQPut
import Derived.Test.YtplacpfdmcnaiaaWApart
import Derived.Test.YtplacpfdmcnaiaaWArr
import Derived.Test.YtplacpfdmcnaiaaWZeros
import Derived.Test.YtplacpfdmcnaiaaWFoot
import Derived.Test.YtplacpfdmcnaiaaWKept
import Derived.Test.YtplacpfdmcnaiaaWShare
import Derived.Test.YtplacpfdmcnaiaaWN
import Derived.Test.YtplacpfdmcnaiaaWFootNe
import Derived.Test.YtplacpfdmcnaiaaWAt
import Derived.Test.YtplacpfdmcnaiaaWEqStruct
import Derived.Test.YtplacpfdmcnaiaaWRepsOne
import Derived.Test.YtplacpfdmcnaiaaWInv
import Derived.Test.YtplacpfdmcnaiaaWInvWords
import Derived.Test.YtplacpfdmcnaiaaWGuard
import Derived.Test.YtplacpfdmcnaiaaWNEv
import Derived.Test.YtplacpfdmcnaiaaWMore
namespace Go.Proofs.Ytplacpfdmcnaiaa.MFnExactMoveOk
open Go.RowKit Go.Proofs.YtplacpfdmcnaiaaW.PrintWords Go.Proofs.YtplacpfdmcnaiaaW.PrintLast Go.Proofs.YtplacpfdmcnaiaaW.PrintMore
attribute [local go_sem] max2_int min2_int max_two min_two max_three min_three max_four min_four   -- for this text's walks alone
set_option linter.unusedVariables false
set_option linter.unusedSimpArgs false



def errW : Option Int → Value
  | none => .nilIface
  | some c => .iface 0 (.int .i64 c)
theorem errW_none : errW none = .nilIface := rfl
theorem errW_some (c : Int) : errW (some c) = .iface 0 (.int .i64 c) := rfl

-- the values' own types

end Go.Proofs.Ytplacpfdmcnaiaa.MFnExactMoveOk
