/-
  No cell of these rows narrows 'for every input' (looked for: loops, veiled, ifaces, maps, wideKeys, modest, calm, conditions, laid).
  DERIVED. THE GIVEN ROWS OF THIS SEAT. 9 by the template 'for every input the law returns true; each argument reads behind the call as it read before'; 0 by the template 'total and deterministic' (their statements: YtbghkcgglhoopaaTotals.lean).
  GIVEN WITH THE SEED: the statements are not yours to turn. If you find one false, say at which input.
  Laid BY PROGRAM, IN A SANDBOX (cutbox-rows.mjs): the forced cells as the released guide's own fill.sh prints them over the translation 9c55e0bee222e056… (all of the seat's roots in one cut). By AI agents, Wed Nov 11 2026. No macro, syntax, notation, axiom, sorry.
-/
import Derived.Test.YtbghkcgglhoopaaChecked
import GoSem.Claim
import GoSem.ClaimJoined
import GoSem.ClaimMapViews
import Derived.JoinedTies
import Derived.KernelRfl
namespace Go.Proofs.Ytbghkcgglhoopaa
/- THE CELL 'sum', in the pinned program and in every row, IS THE sha256 OF THE DUMP (.gsa) THAT YtbghkcgglhoopaaProg.lean LOADS. Nothing in Lean hashes anything: it is a label: what it is worth is what the hold of that sum in a sandbox is worth. -/
noncomputable def Try.pinned : Pinned := { name := "ytbghkcgglhoopaa", sum := "9c55e0bee222e056b117c99e965201e9fd8a5d612caecfb17dd1539acf83b208", checked := Try.checked }
namespace Rows
def none {H : Type} : Left H := { results := [], args := [] }

/-- 'laws.FnExactPerform': WHATEVER THE INPUT: true; the input reads as it did. -/
def fnExactPerformSpec : ChangeSpec := { name := "fnExactPerform", fn := fun _ => fun
  | [d1, d2] => { results := [.lit (.bool true)], args := [d1, d2] }
  | _ => none }
def fnExactPerformRow : OpenClaim := { program := "ytbghkcgglhoopaa", sum := "9c55e0bee222e056b117c99e965201e9fd8a5d612caecfb17dd1539acf83b208", func := "loop.example/g00846/laws.FnExactPerform", spec := "fnExactPerform", apart := false }
def FnExactPerformSaid : Prop := fnExactPerformRow.holds Try.pinned (OpenSpec.ofChange fnExactPerformSpec)

/-- ITS FALSE NEIGHBOUR: 'it returns false'. Refute it at one input. -/
def fnExactPerformWrong : ChangeSpec := { name := "fnExactPerform", fn := fun _ => fun
  | [d1, d2] => { results := [.lit (.bool false)], args := [d1, d2] }
  | _ => none }
def FnExactPerformWrongFalsely : Prop := fnExactPerformRow.holds Try.pinned (OpenSpec.ofChange fnExactPerformWrong)

/-- 'laws.FnExactPermOfMove': WHATEVER THE INPUT: true; the input reads as it did. -/
def fnExactPermOfMoveSpec : ChangeSpec := { name := "fnExactPermOfMove", fn := fun _ => fun
  | [d1, d2] => { results := [.lit (.bool true)], args := [d1, d2] }
  | _ => none }
def fnExactPermOfMoveRow : OpenClaim := { program := "ytbghkcgglhoopaa", sum := "9c55e0bee222e056b117c99e965201e9fd8a5d612caecfb17dd1539acf83b208", func := "loop.example/g00846/laws.FnExactPermOfMove", spec := "fnExactPermOfMove", unfollowed := true, recurses := true, apart := false }
def FnExactPermOfMoveSaid : Prop := fnExactPermOfMoveRow.holds Try.pinned (OpenSpec.ofChange fnExactPermOfMoveSpec)

/-- ITS FALSE NEIGHBOUR: 'it returns false'. Refute it at one input. -/
def fnExactPermOfMoveWrong : ChangeSpec := { name := "fnExactPermOfMove", fn := fun _ => fun
  | [d1, d2] => { results := [.lit (.bool false)], args := [d1, d2] }
  | _ => none }
def FnExactPermOfMoveWrongFalsely : Prop := fnExactPermOfMoveRow.holds Try.pinned (OpenSpec.ofChange fnExactPermOfMoveWrong)

/-- 'laws.FnExactPerformAll': WHATEVER THE INPUT: true; the input reads as it did. -/
def fnExactPerformAllSpec : ChangeSpec := { name := "fnExactPerformAll", fn := fun _ => fun
  | [d1, d2] => { results := [.lit (.bool true)], args := [d1, d2] }
  | _ => none }
def fnExactPerformAllRow : OpenClaim := { program := "ytbghkcgglhoopaa", sum := "9c55e0bee222e056b117c99e965201e9fd8a5d612caecfb17dd1539acf83b208", func := "loop.example/g00846/laws.FnExactPerformAll", spec := "fnExactPerformAll", apart := false }
def FnExactPerformAllSaid : Prop := fnExactPerformAllRow.holds Try.pinned (OpenSpec.ofChange fnExactPerformAllSpec)

/-- ITS FALSE NEIGHBOUR: 'it returns false'. Refute it at one input. -/
def fnExactPerformAllWrong : ChangeSpec := { name := "fnExactPerformAll", fn := fun _ => fun
  | [d1, d2] => { results := [.lit (.bool false)], args := [d1, d2] }
  | _ => none }
def FnExactPerformAllWrongFalsely : Prop := fnExactPerformAllRow.holds Try.pinned (OpenSpec.ofChange fnExactPerformAllWrong)

/-- 'laws.FnExactSortPackets': WHATEVER THE INPUT: true; the input reads as it did. -/
def fnExactSortPacketsSpec : ChangeSpec := { name := "fnExactSortPackets", fn := fun _ => fun
  | [d] => { results := [.lit (.bool true)], args := [d] }
  | _ => none }
def fnExactSortPacketsRow : OpenClaim := { program := "ytbghkcgglhoopaa", sum := "9c55e0bee222e056b117c99e965201e9fd8a5d612caecfb17dd1539acf83b208", func := "loop.example/g00846/laws.FnExactSortPackets", spec := "fnExactSortPackets", unfollowed := true, recurses := true, apart := false }
def FnExactSortPacketsSaid : Prop := fnExactSortPacketsRow.holds Try.pinned (OpenSpec.ofChange fnExactSortPacketsSpec)

/-- ITS FALSE NEIGHBOUR: 'it returns false'. Refute it at one input. -/
def fnExactSortPacketsWrong : ChangeSpec := { name := "fnExactSortPackets", fn := fun _ => fun
  | [d] => { results := [.lit (.bool false)], args := [d] }
  | _ => none }
def FnExactSortPacketsWrongFalsely : Prop := fnExactSortPacketsRow.holds Try.pinned (OpenSpec.ofChange fnExactSortPacketsWrong)

/-- 'laws.FnChoices': WHATEVER THE INPUT: true; the input reads as it did. -/
def fnChoicesSpec : ChangeSpec := { name := "fnChoices", fn := fun _ => fun
  | [d] => { results := [.lit (.bool true)], args := [d] }
  | _ => none }
def fnChoicesRow : OpenClaim := { program := "ytbghkcgglhoopaa", sum := "9c55e0bee222e056b117c99e965201e9fd8a5d612caecfb17dd1539acf83b208", func := "loop.example/g00846/laws.FnChoices", spec := "fnChoices", unfollowed := true, recurses := true, apart := false }
def FnChoicesSaid : Prop := fnChoicesRow.holds Try.pinned (OpenSpec.ofChange fnChoicesSpec)

/-- ITS FALSE NEIGHBOUR: 'it returns false'. Refute it at one input. -/
def fnChoicesWrong : ChangeSpec := { name := "fnChoices", fn := fun _ => fun
  | [d] => { results := [.lit (.bool false)], args := [d] }
  | _ => none }
def FnChoicesWrongFalsely : Prop := fnChoicesRow.holds Try.pinned (OpenSpec.ofChange fnChoicesWrong)

/-- 'laws.FnExactCountResults': WHATEVER THE INPUT: true; the input reads as it did. -/
def fnExactCountResultsSpec : ChangeSpec := { name := "fnExactCountResults", fn := fun _ => fun
  | [d1, d2] => { results := [.lit (.bool true)], args := [d1, d2] }
  | _ => none }
def fnExactCountResultsRow : OpenClaim := { program := "ytbghkcgglhoopaa", sum := "9c55e0bee222e056b117c99e965201e9fd8a5d612caecfb17dd1539acf83b208", func := "loop.example/g00846/laws.FnExactCountResults", spec := "fnExactCountResults", unfollowed := true, recurses := true, apart := false }
def FnExactCountResultsSaid : Prop := fnExactCountResultsRow.holds Try.pinned (OpenSpec.ofChange fnExactCountResultsSpec)

/-- ITS FALSE NEIGHBOUR: 'it returns false'. Refute it at one input. -/
def fnExactCountResultsWrong : ChangeSpec := { name := "fnExactCountResults", fn := fun _ => fun
  | [d1, d2] => { results := [.lit (.bool false)], args := [d1, d2] }
  | _ => none }
def FnExactCountResultsWrongFalsely : Prop := fnExactCountResultsRow.holds Try.pinned (OpenSpec.ofChange fnExactCountResultsWrong)

/-- 'laws.FnExactIsResult': WHATEVER THE INPUT: true; the input reads as it did. -/
def fnExactIsResultSpec : ChangeSpec := { name := "fnExactIsResult", fn := fun _ => fun
  | [d1, d2, d3] => { results := [.lit (.bool true)], args := [d1, d2, d3] }
  | _ => none }
def fnExactIsResultRow : OpenClaim := { program := "ytbghkcgglhoopaa", sum := "9c55e0bee222e056b117c99e965201e9fd8a5d612caecfb17dd1539acf83b208", func := "loop.example/g00846/laws.FnExactIsResult", spec := "fnExactIsResult", unfollowed := true, recurses := true, apart := false }
def FnExactIsResultSaid : Prop := fnExactIsResultRow.holds Try.pinned (OpenSpec.ofChange fnExactIsResultSpec)

/-- ITS FALSE NEIGHBOUR: 'it returns false'. Refute it at one input. -/
def fnExactIsResultWrong : ChangeSpec := { name := "fnExactIsResult", fn := fun _ => fun
  | [d1, d2, d3] => { results := [.lit (.bool false)], args := [d1, d2, d3] }
  | _ => none }
def FnExactIsResultWrongFalsely : Prop := fnExactIsResultRow.holds Try.pinned (OpenSpec.ofChange fnExactIsResultWrong)

/-- 'laws.FnExactResultsOf': WHATEVER THE INPUT: true; the input reads as it did. -/
def fnExactResultsOfSpec : ChangeSpec := { name := "fnExactResultsOf", fn := fun _ => fun
  | [d1, d2] => { results := [.lit (.bool true)], args := [d1, d2] }
  | _ => none }
def fnExactResultsOfRow : OpenClaim := { program := "ytbghkcgglhoopaa", sum := "9c55e0bee222e056b117c99e965201e9fd8a5d612caecfb17dd1539acf83b208", func := "loop.example/g00846/laws.FnExactResultsOf", spec := "fnExactResultsOf", unfollowed := true, recurses := true, apart := false }
def FnExactResultsOfSaid : Prop := fnExactResultsOfRow.holds Try.pinned (OpenSpec.ofChange fnExactResultsOfSpec)

/-- ITS FALSE NEIGHBOUR: 'it returns false'. Refute it at one input. -/
def fnExactResultsOfWrong : ChangeSpec := { name := "fnExactResultsOf", fn := fun _ => fun
  | [d1, d2] => { results := [.lit (.bool false)], args := [d1, d2] }
  | _ => none }
def FnExactResultsOfWrongFalsely : Prop := fnExactResultsOfRow.holds Try.pinned (OpenSpec.ofChange fnExactResultsOfWrong)

/-- 'laws.FnExactResultsAfter': WHATEVER THE INPUT: true; the input reads as it did. -/
def fnExactResultsAfterSpec : ChangeSpec := { name := "fnExactResultsAfter", fn := fun _ => fun
  | [d1, d2] => { results := [.lit (.bool true)], args := [d1, d2] }
  | _ => none }
def fnExactResultsAfterRow : OpenClaim := { program := "ytbghkcgglhoopaa", sum := "9c55e0bee222e056b117c99e965201e9fd8a5d612caecfb17dd1539acf83b208", func := "loop.example/g00846/laws.FnExactResultsAfter", spec := "fnExactResultsAfter", unfollowed := true, recurses := true, apart := false }
def FnExactResultsAfterSaid : Prop := fnExactResultsAfterRow.holds Try.pinned (OpenSpec.ofChange fnExactResultsAfterSpec)

/-- ITS FALSE NEIGHBOUR: 'it returns false'. Refute it at one input. -/
def fnExactResultsAfterWrong : ChangeSpec := { name := "fnExactResultsAfter", fn := fun _ => fun
  | [d1, d2] => { results := [.lit (.bool false)], args := [d1, d2] }
  | _ => none }
def FnExactResultsAfterWrongFalsely : Prop := fnExactResultsAfterRow.holds Try.pinned (OpenSpec.ofChange fnExactResultsAfterWrong)

/- THE SECOND FORM. 'bulk': how many values and letters a reading holds, each counted each time it is reached (what is shared counts as often as it is met; a slice's spare places count too). A statement '..UptoSaid' is the law's where the arguments, and the package variables that the reading takes, are together of bulk at most 1048576: NARROWER than '..Said'. Prove '..Said' where nothing that the law and all that it calls make is longer than what came in: it says more and counts as full. Else prove '..UptoSaid'. A law counts once. -/
mutual
def uptoBulk {H : Type} : DataW H → Nat
  | .lit (.string bytes) => bytes.length + 1
  | .lit _ => 1
  | .nil => 1
  | .ptr d => uptoBulk d + 1
  | .slice elems spare => uptoBulkAll elems + uptoBulkAll spare + 1
  | .agg parts => uptoBulkAll parts + 1
  | .iface _ d => uptoBulk d + 1
  | .map entries => uptoBulkEntries entries + 1
  | .held _ => 1
def uptoBulkAll {H : Type} : List (DataW H) → Nat
  | [] => 0
  | d :: r => uptoBulk d + uptoBulkAll r
def uptoBulkEntries {H : Type} : List (Lit × DataW H) → Nat
  | [] => 0
  | x :: r => uptoBulkEntry x + uptoBulkEntries r
def uptoBulkEntry {H : Type} : Lit × DataW H → Nat
  | (.string bytes, d) => bytes.length + uptoBulk d + 1
  | (_, d) => uptoBulk d + 1
 end
def uptoSmall : (H : Type) → List (DataW H) → Bool := fun _ ds => decide (uptoBulkAll ds ≤ 1048576)
def OpenSpec.upto (s : _root_.Go.ChangeSpec) : _root_.Go.OpenSpec := { _root_.Go.OpenSpec.ofChange s with cond := some uptoSmall }

/-- 'laws.FnExactPerform', WHERE WHAT IT READS IS OF BULK AT MOST 1048576: true; the input reads as it did. -/
def fnExactPerformUptoRow : OpenClaim := { program := "ytbghkcgglhoopaa", sum := "9c55e0bee222e056b117c99e965201e9fd8a5d612caecfb17dd1539acf83b208", func := "loop.example/g00846/laws.FnExactPerform", spec := "fnExactPerform", apart := false, narrowed := true }
def FnExactPerformUptoSaid : Prop := fnExactPerformUptoRow.holds Try.pinned (OpenSpec.upto fnExactPerformSpec)

/-- 'laws.FnExactPermOfMove', WHERE WHAT IT READS IS OF BULK AT MOST 1048576: true; the input reads as it did. -/
def fnExactPermOfMoveUptoRow : OpenClaim := { program := "ytbghkcgglhoopaa", sum := "9c55e0bee222e056b117c99e965201e9fd8a5d612caecfb17dd1539acf83b208", func := "loop.example/g00846/laws.FnExactPermOfMove", spec := "fnExactPermOfMove", unfollowed := true, recurses := true, apart := false, narrowed := true }
def FnExactPermOfMoveUptoSaid : Prop := fnExactPermOfMoveUptoRow.holds Try.pinned (OpenSpec.upto fnExactPermOfMoveSpec)

/-- 'laws.FnExactPerformAll', WHERE WHAT IT READS IS OF BULK AT MOST 1048576: true; the input reads as it did. -/
def fnExactPerformAllUptoRow : OpenClaim := { program := "ytbghkcgglhoopaa", sum := "9c55e0bee222e056b117c99e965201e9fd8a5d612caecfb17dd1539acf83b208", func := "loop.example/g00846/laws.FnExactPerformAll", spec := "fnExactPerformAll", apart := false, narrowed := true }
def FnExactPerformAllUptoSaid : Prop := fnExactPerformAllUptoRow.holds Try.pinned (OpenSpec.upto fnExactPerformAllSpec)

/-- 'laws.FnExactSortPackets', WHERE WHAT IT READS IS OF BULK AT MOST 1048576: true; the input reads as it did. -/
def fnExactSortPacketsUptoRow : OpenClaim := { program := "ytbghkcgglhoopaa", sum := "9c55e0bee222e056b117c99e965201e9fd8a5d612caecfb17dd1539acf83b208", func := "loop.example/g00846/laws.FnExactSortPackets", spec := "fnExactSortPackets", unfollowed := true, recurses := true, apart := false, narrowed := true }
def FnExactSortPacketsUptoSaid : Prop := fnExactSortPacketsUptoRow.holds Try.pinned (OpenSpec.upto fnExactSortPacketsSpec)

/-- 'laws.FnChoices', WHERE WHAT IT READS IS OF BULK AT MOST 1048576: true; the input reads as it did. -/
def fnChoicesUptoRow : OpenClaim := { program := "ytbghkcgglhoopaa", sum := "9c55e0bee222e056b117c99e965201e9fd8a5d612caecfb17dd1539acf83b208", func := "loop.example/g00846/laws.FnChoices", spec := "fnChoices", unfollowed := true, recurses := true, apart := false, narrowed := true }
def FnChoicesUptoSaid : Prop := fnChoicesUptoRow.holds Try.pinned (OpenSpec.upto fnChoicesSpec)

/-- 'laws.FnExactCountResults', WHERE WHAT IT READS IS OF BULK AT MOST 1048576: true; the input reads as it did. -/
def fnExactCountResultsUptoRow : OpenClaim := { program := "ytbghkcgglhoopaa", sum := "9c55e0bee222e056b117c99e965201e9fd8a5d612caecfb17dd1539acf83b208", func := "loop.example/g00846/laws.FnExactCountResults", spec := "fnExactCountResults", unfollowed := true, recurses := true, apart := false, narrowed := true }
def FnExactCountResultsUptoSaid : Prop := fnExactCountResultsUptoRow.holds Try.pinned (OpenSpec.upto fnExactCountResultsSpec)

/-- 'laws.FnExactIsResult', WHERE WHAT IT READS IS OF BULK AT MOST 1048576: true; the input reads as it did. -/
def fnExactIsResultUptoRow : OpenClaim := { program := "ytbghkcgglhoopaa", sum := "9c55e0bee222e056b117c99e965201e9fd8a5d612caecfb17dd1539acf83b208", func := "loop.example/g00846/laws.FnExactIsResult", spec := "fnExactIsResult", unfollowed := true, recurses := true, apart := false, narrowed := true }
def FnExactIsResultUptoSaid : Prop := fnExactIsResultUptoRow.holds Try.pinned (OpenSpec.upto fnExactIsResultSpec)

/-- 'laws.FnExactResultsOf', WHERE WHAT IT READS IS OF BULK AT MOST 1048576: true; the input reads as it did. -/
def fnExactResultsOfUptoRow : OpenClaim := { program := "ytbghkcgglhoopaa", sum := "9c55e0bee222e056b117c99e965201e9fd8a5d612caecfb17dd1539acf83b208", func := "loop.example/g00846/laws.FnExactResultsOf", spec := "fnExactResultsOf", unfollowed := true, recurses := true, apart := false, narrowed := true }
def FnExactResultsOfUptoSaid : Prop := fnExactResultsOfUptoRow.holds Try.pinned (OpenSpec.upto fnExactResultsOfSpec)

/-- 'laws.FnExactResultsAfter', WHERE WHAT IT READS IS OF BULK AT MOST 1048576: true; the input reads as it did. -/
def fnExactResultsAfterUptoRow : OpenClaim := { program := "ytbghkcgglhoopaa", sum := "9c55e0bee222e056b117c99e965201e9fd8a5d612caecfb17dd1539acf83b208", func := "loop.example/g00846/laws.FnExactResultsAfter", spec := "fnExactResultsAfter", unfollowed := true, recurses := true, apart := false, narrowed := true }
def FnExactResultsAfterUptoSaid : Prop := fnExactResultsAfterUptoRow.holds Try.pinned (OpenSpec.upto fnExactResultsAfterSpec)

end Rows
end Go.Proofs.Ytbghkcgglhoopaa
