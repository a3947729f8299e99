-- Written by this session's own program (wip/tools/myprint.py), over the kit's printer.
import Derived.Test.YtbghkcgglhoopaaDoorProg
import Derived.Below
import Derived.Deep.Draws
import Derived.Deep.AppendLies
import Derived.Maps.AppendAt
import Derived.OwnWalk
import Derived.Laws.BytesArg
import Derived.Laws.MakeOwn
import Derived.Laws.OwnMore
import Derived.Deep.OwnRows
import Derived.Tactics
import Derived.Lib.ConvBytes
import Derived.Laws.Slices
import Derived.WalkKit
import Derived.KernelRfl
import Derived.RowKit3
import Derived.Deep.LoopGhost
import Derived.Deep.QuietTactic
import Derived.BigQuiet
import Derived.WideLaws
import Derived.Deep.DeepCutAuto
import Derived.Deep.CutBlock
import Derived.Deep.RegionHeld3
import Derived.Laws.Rows
import Derived.Lib.AppendStr
import Derived.ArgAppend
import Derived.Laws.IdiomCopy
import Derived.OrdersHeld
import Derived.Laws.BitsLemmas
import Derived.RowKit
import Derived.WalkSpells
import Derived.Deep.RegionWith
import Derived.Shelf.Abstract
import Derived.Lib.Bytealg
import Derived.Lib.Walk
import Derived.Shelf.Strconv.Itoa3
import Derived.Shelf.Strconv.ErrVarAll
import Derived.Shelf.Strings.OnBuilder
import Derived.Test.YtbghkcgglhoopaaDoorMFnWordswWords
import Derived.Test.YtbghkcgglhoopaaDoorMFnWordswLast
import Derived.Test.YtbghkcgglhoopaaDoorMFnWordswWords
import Derived.Test.YtbghkcgglhoopaaDoorMFnWordswLast
import Derived.Test.YtbghkcgglhoopaaDoorMFnWordswApart
import Derived.Test.YtbghkcgglhoopaaDoorMFnWordswWords
import Derived.Test.YtbghkcgglhoopaaDoorMFnWordswApart
import Derived.Test.YtbghkcgglhoopaaDoorMFnWordswWords
import Derived.Test.YtbghkcgglhoopaaDoorMFnWordswFoot
import Derived.Test.YtbghkcgglhoopaaDoorMFnWordswKept
import Derived.Test.YtbghkcgglhoopaaDoorMFnWordswShare
import Derived.Test.YtbghkcgglhoopaaDoorMFnWordswN
import Derived.Test.YtbghkcgglhoopaaDoorMFnWordswRepsOne
import Derived.Test.YtbghkcgglhoopaaDoorMFnWordswN
import Derived.Test.YtbghkcgglhoopaaDoorMFnWordswMore
namespace Go.Proofs.YtbghkcgglhoopaaDoor.MFnWords
open Go.RowKit Go.Proofs.YtbghkcgglhoopaaDoorW.PrintWords Go.Proofs.YtbghkcgglhoopaaDoorW.PrintLast Go.Proofs.YtbghkcgglhoopaaDoorW.PrintMore
attribute [local go_sem] max2_int min2_int max_two min_two max_three min_three max_four min_four   -- for this text's walks alone
set_option linter.unusedVariables false
set_option linter.unusedSimpArgs false



def errW : Option Int → Value
  | none => .nilIface
  | some c => .iface 54 (.int .i64 c)
theorem errW_none : errW none = .nilIface := rfl
theorem errW_some (c : Int) : errW (some c) = .iface 54 (.int .i64 c) := rfl

theorem info9 : (Tryd.prog.info? 9).map (fun i => (i.zero, i.size, i.bytes)) = some (some (.string ⟨#[]⟩), 1, 16) := by kernel_rfl
-- the values' own types

end Go.Proofs.YtbghkcgglhoopaaDoor.MFnWords
