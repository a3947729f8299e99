/-
  No cell of these rows narrows 'for every input' (looked for: loops, veiled, ifaces, maps, wideKeys, modest, calm, conditions, laid).
  DERIVED. THE GIVEN ROWS OF THIS SEAT. 12 by the template 'for every input the law returns true; each argument reads behind the call as it read before'; 0 by the template 'total and deterministic' (their statements: YtojbjofngpcjaaaTotals.lean).
  GIVEN WITH THE SEED: the statements are not yours to turn. If you find one false, say at which input.
  Laid BY PROGRAM, IN A SANDBOX (cutbox-rows.mjs): the forced cells as the released guide's own fill.sh prints them over the translation b7225c2124b450c0… (all of the seat's roots in one cut). By AI agents, Wed Nov 11 2026. No macro, syntax, notation, axiom, sorry.
-/
import Derived.Test.YtojbjofngpcjaaaChecked
import GoSem.Claim
import GoSem.ClaimJoined
import GoSem.ClaimMapViews
import Derived.JoinedTies
import Derived.KernelRfl
namespace Go.Proofs.Ytojbjofngpcjaaa
/- THE CELL 'sum', in the pinned program and in every row, IS THE sha256 OF THE DUMP (.gsa) THAT YtojbjofngpcjaaaProg.lean LOADS. Nothing in Lean hashes anything: it is a label: what it is worth is what the hold of that sum in a sandbox is worth. -/
noncomputable def Try.pinned : Pinned := { name := "ytojbjofngpcjaaa", sum := "b7225c2124b450c015a8849bd6abde0d93962120787eae7ab10e12470eaec9cc", checked := Try.checked }
namespace Rows
def none {H : Type} : Left H := { results := [], args := [] }

/-- 'laws.FnExactLeastRiffles': WHATEVER THE INPUT: true; the input reads as it did. -/
def fnExactLeastRifflesSpec : ChangeSpec := { name := "fnExactLeastRiffles", fn := fun _ => fun
  | [d] => { results := [.lit (.bool true)], args := [d] }
  | _ => none }
def fnExactLeastRifflesRow : OpenClaim := { program := "ytojbjofngpcjaaa", sum := "b7225c2124b450c015a8849bd6abde0d93962120787eae7ab10e12470eaec9cc", func := "loop.example/g00846/laws.FnExactLeastRiffles", spec := "fnExactLeastRiffles", apart := false }
def FnExactLeastRifflesSaid : Prop := fnExactLeastRifflesRow.holds Try.pinned (OpenSpec.ofChange fnExactLeastRifflesSpec)

/-- ITS FALSE NEIGHBOUR: 'it returns false'. Refute it at one input. -/
def fnExactLeastRifflesWrong : ChangeSpec := { name := "fnExactLeastRiffles", fn := fun _ => fun
  | [d] => { results := [.lit (.bool false)], args := [d] }
  | _ => none }
def FnExactLeastRifflesWrongFalsely : Prop := fnExactLeastRifflesRow.holds Try.pinned (OpenSpec.ofChange fnExactLeastRifflesWrong)

/-- 'laws.FnExactCyclesOf': WHATEVER THE INPUT: true; the input reads as it did. -/
def fnExactCyclesOfSpec : ChangeSpec := { name := "fnExactCyclesOf", fn := fun _ => fun
  | [d] => { results := [.lit (.bool true)], args := [d] }
  | _ => none }
def fnExactCyclesOfRow : OpenClaim := { program := "ytojbjofngpcjaaa", sum := "b7225c2124b450c015a8849bd6abde0d93962120787eae7ab10e12470eaec9cc", func := "loop.example/g00846/laws.FnExactCyclesOf", spec := "fnExactCyclesOf", apart := false }
def FnExactCyclesOfSaid : Prop := fnExactCyclesOfRow.holds Try.pinned (OpenSpec.ofChange fnExactCyclesOfSpec)

/-- ITS FALSE NEIGHBOUR: 'it returns false'. Refute it at one input. -/
def fnExactCyclesOfWrong : ChangeSpec := { name := "fnExactCyclesOf", fn := fun _ => fun
  | [d] => { results := [.lit (.bool false)], args := [d] }
  | _ => none }
def FnExactCyclesOfWrongFalsely : Prop := fnExactCyclesOfRow.holds Try.pinned (OpenSpec.ofChange fnExactCyclesOfWrong)

/-- 'laws.FnExactOrderOfPerm': WHATEVER THE INPUT: true; the input reads as it did. -/
def fnExactOrderOfPermSpec : ChangeSpec := { name := "fnExactOrderOfPerm", fn := fun _ => fun
  | [d] => { results := [.lit (.bool true)], args := [d] }
  | _ => none }
def fnExactOrderOfPermRow : OpenClaim := { program := "ytojbjofngpcjaaa", sum := "b7225c2124b450c015a8849bd6abde0d93962120787eae7ab10e12470eaec9cc", func := "loop.example/g00846/laws.FnExactOrderOfPerm", spec := "fnExactOrderOfPerm", apart := false }
def FnExactOrderOfPermSaid : Prop := fnExactOrderOfPermRow.holds Try.pinned (OpenSpec.ofChange fnExactOrderOfPermSpec)

/-- ITS FALSE NEIGHBOUR: 'it returns false'. Refute it at one input. -/
def fnExactOrderOfPermWrong : ChangeSpec := { name := "fnExactOrderOfPerm", fn := fun _ => fun
  | [d] => { results := [.lit (.bool false)], args := [d] }
  | _ => none }
def FnExactOrderOfPermWrongFalsely : Prop := fnExactOrderOfPermRow.holds Try.pinned (OpenSpec.ofChange fnExactOrderOfPermWrong)

/-- 'laws.FnExactArrangeBy': WHATEVER THE INPUT: true; the input reads as it did. -/
def fnExactArrangeBySpec : ChangeSpec := { name := "fnExactArrangeBy", fn := fun _ => fun
  | [d1, d2] => { results := [.lit (.bool true)], args := [d1, d2] }
  | _ => none }
def fnExactArrangeByRow : OpenClaim := { program := "ytojbjofngpcjaaa", sum := "b7225c2124b450c015a8849bd6abde0d93962120787eae7ab10e12470eaec9cc", func := "loop.example/g00846/laws.FnExactArrangeBy", spec := "fnExactArrangeBy", apart := false }
def FnExactArrangeBySaid : Prop := fnExactArrangeByRow.holds Try.pinned (OpenSpec.ofChange fnExactArrangeBySpec)

/-- ITS FALSE NEIGHBOUR: 'it returns false'. Refute it at one input. -/
def fnExactArrangeByWrong : ChangeSpec := { name := "fnExactArrangeBy", fn := fun _ => fun
  | [d1, d2] => { results := [.lit (.bool false)], args := [d1, d2] }
  | _ => none }
def FnExactArrangeByWrongFalsely : Prop := fnExactArrangeByRow.holds Try.pinned (OpenSpec.ofChange fnExactArrangeByWrong)

/-- 'laws.FnExactPermBetween': WHATEVER THE INPUT: true; the input reads as it did. -/
def fnExactPermBetweenSpec : ChangeSpec := { name := "fnExactPermBetween", fn := fun _ => fun
  | [d1, d2] => { results := [.lit (.bool true)], args := [d1, d2] }
  | _ => none }
def fnExactPermBetweenRow : OpenClaim := { program := "ytojbjofngpcjaaa", sum := "b7225c2124b450c015a8849bd6abde0d93962120787eae7ab10e12470eaec9cc", func := "loop.example/g00846/laws.FnExactPermBetween", spec := "fnExactPermBetween", unfollowed := true, recurses := true, apart := false }
def FnExactPermBetweenSaid : Prop := fnExactPermBetweenRow.holds Try.pinned (OpenSpec.ofChange fnExactPermBetweenSpec)

/-- ITS FALSE NEIGHBOUR: 'it returns false'. Refute it at one input. -/
def fnExactPermBetweenWrong : ChangeSpec := { name := "fnExactPermBetween", fn := fun _ => fun
  | [d1, d2] => { results := [.lit (.bool false)], args := [d1, d2] }
  | _ => none }
def FnExactPermBetweenWrongFalsely : Prop := fnExactPermBetweenRow.holds Try.pinned (OpenSpec.ofChange fnExactPermBetweenWrong)

/-- 'laws.FnExactRisingSequences': WHATEVER THE INPUT: true; the input reads as it did. -/
def fnExactRisingSequencesSpec : ChangeSpec := { name := "fnExactRisingSequences", fn := fun _ => fun
  | [d] => { results := [.lit (.bool true)], args := [d] }
  | _ => none }
def fnExactRisingSequencesRow : OpenClaim := { program := "ytojbjofngpcjaaa", sum := "b7225c2124b450c015a8849bd6abde0d93962120787eae7ab10e12470eaec9cc", func := "loop.example/g00846/laws.FnExactRisingSequences", spec := "fnExactRisingSequences", apart := false }
def FnExactRisingSequencesSaid : Prop := fnExactRisingSequencesRow.holds Try.pinned (OpenSpec.ofChange fnExactRisingSequencesSpec)

/-- ITS FALSE NEIGHBOUR: 'it returns false'. Refute it at one input. -/
def fnExactRisingSequencesWrong : ChangeSpec := { name := "fnExactRisingSequences", fn := fun _ => fun
  | [d] => { results := [.lit (.bool false)], args := [d] }
  | _ => none }
def FnExactRisingSequencesWrongFalsely : Prop := fnExactRisingSequencesRow.holds Try.pinned (OpenSpec.ofChange fnExactRisingSequencesWrong)

/-- 'laws.FnExactPadZeros': WHATEVER THE INPUT: true; the input reads as it did. -/
def fnExactPadZerosSpec : ChangeSpec := { name := "fnExactPadZeros", fn := fun _ => fun
  | [d1, d2] => { results := [.lit (.bool true)], args := [d1, d2] }
  | _ => none }
def fnExactPadZerosRow : OpenClaim := { program := "ytojbjofngpcjaaa", sum := "b7225c2124b450c015a8849bd6abde0d93962120787eae7ab10e12470eaec9cc", func := "loop.example/g00846/laws.FnExactPadZeros", spec := "fnExactPadZeros", inPlace := ["internal/abi.NoEscape", "internal/bytealg.MakeNoZero"], apart := false }
def FnExactPadZerosSaid : Prop := fnExactPadZerosRow.holds Try.pinned (OpenSpec.ofChange fnExactPadZerosSpec)

/-- ITS FALSE NEIGHBOUR: 'it returns false'. Refute it at one input. -/
def fnExactPadZerosWrong : ChangeSpec := { name := "fnExactPadZeros", fn := fun _ => fun
  | [d1, d2] => { results := [.lit (.bool false)], args := [d1, d2] }
  | _ => none }
def FnExactPadZerosWrongFalsely : Prop := fnExactPadZerosRow.holds Try.pinned (OpenSpec.ofChange fnExactPadZerosWrong)

/-- 'laws.FnPerms': WHATEVER THE INPUT: true; the input reads as it did. -/
def fnPermsSpec : ChangeSpec := { name := "fnPerms", fn := fun _ => fun
  | [d] => { results := [.lit (.bool true)], args := [d] }
  | _ => none }
def fnPermsRow : OpenClaim := { program := "ytojbjofngpcjaaa", sum := "b7225c2124b450c015a8849bd6abde0d93962120787eae7ab10e12470eaec9cc", func := "loop.example/g00846/laws.FnPerms", spec := "fnPerms", apart := false }
def FnPermsSaid : Prop := fnPermsRow.holds Try.pinned (OpenSpec.ofChange fnPermsSpec)

/-- ITS FALSE NEIGHBOUR: 'it returns false'. Refute it at one input. -/
def fnPermsWrong : ChangeSpec := { name := "fnPerms", fn := fun _ => fun
  | [d] => { results := [.lit (.bool false)], args := [d] }
  | _ => none }
def FnPermsWrongFalsely : Prop := fnPermsRow.holds Try.pinned (OpenSpec.ofChange fnPermsWrong)

/-- 'laws.FnGilbreath': WHATEVER THE INPUT: true; the input reads as it did. -/
def fnGilbreathSpec : ChangeSpec := { name := "fnGilbreath", fn := fun _ => fun
  | [d] => { results := [.lit (.bool true)], args := [d] }
  | _ => none }
def fnGilbreathRow : OpenClaim := { program := "ytojbjofngpcjaaa", sum := "b7225c2124b450c015a8849bd6abde0d93962120787eae7ab10e12470eaec9cc", func := "loop.example/g00846/laws.FnGilbreath", spec := "fnGilbreath", unfollowed := true, recurses := true, apart := false }
def FnGilbreathSaid : Prop := fnGilbreathRow.holds Try.pinned (OpenSpec.ofChange fnGilbreathSpec)

/-- ITS FALSE NEIGHBOUR: 'it returns false'. Refute it at one input. -/
def fnGilbreathWrong : ChangeSpec := { name := "fnGilbreath", fn := fun _ => fun
  | [d] => { results := [.lit (.bool false)], args := [d] }
  | _ => none }
def FnGilbreathWrongFalsely : Prop := fnGilbreathRow.holds Try.pinned (OpenSpec.ofChange fnGilbreathWrong)

/-- 'laws.FnExactUnshuffleTo': WHATEVER THE INPUT: true; the input reads as it did. -/
def fnExactUnshuffleToSpec : ChangeSpec := { name := "fnExactUnshuffleTo", fn := fun _ => fun
  | [d] => { results := [.lit (.bool true)], args := [d] }
  | _ => none }
def fnExactUnshuffleToRow : OpenClaim := { program := "ytojbjofngpcjaaa", sum := "b7225c2124b450c015a8849bd6abde0d93962120787eae7ab10e12470eaec9cc", func := "loop.example/g00846/laws.FnExactUnshuffleTo", spec := "fnExactUnshuffleTo", apart := false }
def FnExactUnshuffleToSaid : Prop := fnExactUnshuffleToRow.holds Try.pinned (OpenSpec.ofChange fnExactUnshuffleToSpec)

/-- ITS FALSE NEIGHBOUR: 'it returns false'. Refute it at one input. -/
def fnExactUnshuffleToWrong : ChangeSpec := { name := "fnExactUnshuffleTo", fn := fun _ => fun
  | [d] => { results := [.lit (.bool false)], args := [d] }
  | _ => none }
def FnExactUnshuffleToWrongFalsely : Prop := fnExactUnshuffleToRow.holds Try.pinned (OpenSpec.ofChange fnExactUnshuffleToWrong)

/-- 'laws.FnUndone': WHATEVER THE INPUT: true; the input reads as it did. -/
def fnUndoneSpec : ChangeSpec := { name := "fnUndone", fn := fun _ => fun
  | [d] => { results := [.lit (.bool true)], args := [d] }
  | _ => none }
def fnUndoneRow : OpenClaim := { program := "ytojbjofngpcjaaa", sum := "b7225c2124b450c015a8849bd6abde0d93962120787eae7ab10e12470eaec9cc", func := "loop.example/g00846/laws.FnUndone", spec := "fnUndone", apart := false }
def FnUndoneSaid : Prop := fnUndoneRow.holds Try.pinned (OpenSpec.ofChange fnUndoneSpec)

/-- ITS FALSE NEIGHBOUR: 'it returns false'. Refute it at one input. -/
def fnUndoneWrong : ChangeSpec := { name := "fnUndone", fn := fun _ => fun
  | [d] => { results := [.lit (.bool false)], args := [d] }
  | _ => none }
def FnUndoneWrongFalsely : Prop := fnUndoneRow.holds Try.pinned (OpenSpec.ofChange fnUndoneWrong)

/-- 'laws.FnMoves': WHATEVER THE INPUT: true; the input reads as it did. -/
def fnMovesSpec : ChangeSpec := { name := "fnMoves", fn := fun _ => fun
  | [d] => { results := [.lit (.bool true)], args := [d] }
  | _ => none }
def fnMovesRow : OpenClaim := { program := "ytojbjofngpcjaaa", sum := "b7225c2124b450c015a8849bd6abde0d93962120787eae7ab10e12470eaec9cc", func := "loop.example/g00846/laws.FnMoves", spec := "fnMoves", unfollowed := true, recurses := true, apart := false }
def FnMovesSaid : Prop := fnMovesRow.holds Try.pinned (OpenSpec.ofChange fnMovesSpec)

/-- ITS FALSE NEIGHBOUR: 'it returns false'. Refute it at one input. -/
def fnMovesWrong : ChangeSpec := { name := "fnMoves", fn := fun _ => fun
  | [d] => { results := [.lit (.bool false)], args := [d] }
  | _ => none }
def FnMovesWrongFalsely : Prop := fnMovesRow.holds Try.pinned (OpenSpec.ofChange fnMovesWrong)

/- THE SECOND FORM. 'bulk': how many values and letters a reading holds, each counted each time it is reached (what is shared counts as often as it is met; a slice's spare places count too). A statement '..UptoSaid' is the law's where the arguments, and the package variables that the reading takes, are together of bulk at most 1048576: NARROWER than '..Said'. Prove '..Said' where nothing that the law and all that it calls make is longer than what came in: it says more and counts as full. Else prove '..UptoSaid'. A law counts once. -/
mutual
def uptoBulk {H : Type} : DataW H → Nat
  | .lit (.string bytes) => bytes.length + 1
  | .lit _ => 1
  | .nil => 1
  | .ptr d => uptoBulk d + 1
  | .slice elems spare => uptoBulkAll elems + uptoBulkAll spare + 1
  | .agg parts => uptoBulkAll parts + 1
  | .iface _ d => uptoBulk d + 1
  | .map entries => uptoBulkEntries entries + 1
  | .held _ => 1
def uptoBulkAll {H : Type} : List (DataW H) → Nat
  | [] => 0
  | d :: r => uptoBulk d + uptoBulkAll r
def uptoBulkEntries {H : Type} : List (Lit × DataW H) → Nat
  | [] => 0
  | x :: r => uptoBulkEntry x + uptoBulkEntries r
def uptoBulkEntry {H : Type} : Lit × DataW H → Nat
  | (.string bytes, d) => bytes.length + uptoBulk d + 1
  | (_, d) => uptoBulk d + 1
 end
def uptoSmall : (H : Type) → List (DataW H) → Bool := fun _ ds => decide (uptoBulkAll ds ≤ 1048576)
def OpenSpec.upto (s : _root_.Go.ChangeSpec) : _root_.Go.OpenSpec := { _root_.Go.OpenSpec.ofChange s with cond := some uptoSmall }

/-- 'laws.FnExactLeastRiffles', WHERE WHAT IT READS IS OF BULK AT MOST 1048576: true; the input reads as it did. -/
def fnExactLeastRifflesUptoRow : OpenClaim := { program := "ytojbjofngpcjaaa", sum := "b7225c2124b450c015a8849bd6abde0d93962120787eae7ab10e12470eaec9cc", func := "loop.example/g00846/laws.FnExactLeastRiffles", spec := "fnExactLeastRiffles", apart := false, narrowed := true }
def FnExactLeastRifflesUptoSaid : Prop := fnExactLeastRifflesUptoRow.holds Try.pinned (OpenSpec.upto fnExactLeastRifflesSpec)

/-- 'laws.FnExactCyclesOf', WHERE WHAT IT READS IS OF BULK AT MOST 1048576: true; the input reads as it did. -/
def fnExactCyclesOfUptoRow : OpenClaim := { program := "ytojbjofngpcjaaa", sum := "b7225c2124b450c015a8849bd6abde0d93962120787eae7ab10e12470eaec9cc", func := "loop.example/g00846/laws.FnExactCyclesOf", spec := "fnExactCyclesOf", apart := false, narrowed := true }
def FnExactCyclesOfUptoSaid : Prop := fnExactCyclesOfUptoRow.holds Try.pinned (OpenSpec.upto fnExactCyclesOfSpec)

/-- 'laws.FnExactOrderOfPerm', WHERE WHAT IT READS IS OF BULK AT MOST 1048576: true; the input reads as it did. -/
def fnExactOrderOfPermUptoRow : OpenClaim := { program := "ytojbjofngpcjaaa", sum := "b7225c2124b450c015a8849bd6abde0d93962120787eae7ab10e12470eaec9cc", func := "loop.example/g00846/laws.FnExactOrderOfPerm", spec := "fnExactOrderOfPerm", apart := false, narrowed := true }
def FnExactOrderOfPermUptoSaid : Prop := fnExactOrderOfPermUptoRow.holds Try.pinned (OpenSpec.upto fnExactOrderOfPermSpec)

/-- 'laws.FnExactArrangeBy', WHERE WHAT IT READS IS OF BULK AT MOST 1048576: true; the input reads as it did. -/
def fnExactArrangeByUptoRow : OpenClaim := { program := "ytojbjofngpcjaaa", sum := "b7225c2124b450c015a8849bd6abde0d93962120787eae7ab10e12470eaec9cc", func := "loop.example/g00846/laws.FnExactArrangeBy", spec := "fnExactArrangeBy", apart := false, narrowed := true }
def FnExactArrangeByUptoSaid : Prop := fnExactArrangeByUptoRow.holds Try.pinned (OpenSpec.upto fnExactArrangeBySpec)

/-- 'laws.FnExactPermBetween', WHERE WHAT IT READS IS OF BULK AT MOST 1048576: true; the input reads as it did. -/
def fnExactPermBetweenUptoRow : OpenClaim := { program := "ytojbjofngpcjaaa", sum := "b7225c2124b450c015a8849bd6abde0d93962120787eae7ab10e12470eaec9cc", func := "loop.example/g00846/laws.FnExactPermBetween", spec := "fnExactPermBetween", unfollowed := true, recurses := true, apart := false, narrowed := true }
def FnExactPermBetweenUptoSaid : Prop := fnExactPermBetweenUptoRow.holds Try.pinned (OpenSpec.upto fnExactPermBetweenSpec)

/-- 'laws.FnExactRisingSequences', WHERE WHAT IT READS IS OF BULK AT MOST 1048576: true; the input reads as it did. -/
def fnExactRisingSequencesUptoRow : OpenClaim := { program := "ytojbjofngpcjaaa", sum := "b7225c2124b450c015a8849bd6abde0d93962120787eae7ab10e12470eaec9cc", func := "loop.example/g00846/laws.FnExactRisingSequences", spec := "fnExactRisingSequences", apart := false, narrowed := true }
def FnExactRisingSequencesUptoSaid : Prop := fnExactRisingSequencesUptoRow.holds Try.pinned (OpenSpec.upto fnExactRisingSequencesSpec)

/-- 'laws.FnExactPadZeros', WHERE WHAT IT READS IS OF BULK AT MOST 1048576: true; the input reads as it did. -/
def fnExactPadZerosUptoRow : OpenClaim := { program := "ytojbjofngpcjaaa", sum := "b7225c2124b450c015a8849bd6abde0d93962120787eae7ab10e12470eaec9cc", func := "loop.example/g00846/laws.FnExactPadZeros", spec := "fnExactPadZeros", inPlace := ["internal/abi.NoEscape", "internal/bytealg.MakeNoZero"], apart := false, narrowed := true }
def FnExactPadZerosUptoSaid : Prop := fnExactPadZerosUptoRow.holds Try.pinned (OpenSpec.upto fnExactPadZerosSpec)

/-- 'laws.FnPerms', WHERE WHAT IT READS IS OF BULK AT MOST 1048576: true; the input reads as it did. -/
def fnPermsUptoRow : OpenClaim := { program := "ytojbjofngpcjaaa", sum := "b7225c2124b450c015a8849bd6abde0d93962120787eae7ab10e12470eaec9cc", func := "loop.example/g00846/laws.FnPerms", spec := "fnPerms", apart := false, narrowed := true }
def FnPermsUptoSaid : Prop := fnPermsUptoRow.holds Try.pinned (OpenSpec.upto fnPermsSpec)

/-- 'laws.FnGilbreath', WHERE WHAT IT READS IS OF BULK AT MOST 1048576: true; the input reads as it did. -/
def fnGilbreathUptoRow : OpenClaim := { program := "ytojbjofngpcjaaa", sum := "b7225c2124b450c015a8849bd6abde0d93962120787eae7ab10e12470eaec9cc", func := "loop.example/g00846/laws.FnGilbreath", spec := "fnGilbreath", unfollowed := true, recurses := true, apart := false, narrowed := true }
def FnGilbreathUptoSaid : Prop := fnGilbreathUptoRow.holds Try.pinned (OpenSpec.upto fnGilbreathSpec)

/-- 'laws.FnExactUnshuffleTo', WHERE WHAT IT READS IS OF BULK AT MOST 1048576: true; the input reads as it did. -/
def fnExactUnshuffleToUptoRow : OpenClaim := { program := "ytojbjofngpcjaaa", sum := "b7225c2124b450c015a8849bd6abde0d93962120787eae7ab10e12470eaec9cc", func := "loop.example/g00846/laws.FnExactUnshuffleTo", spec := "fnExactUnshuffleTo", apart := false, narrowed := true }
def FnExactUnshuffleToUptoSaid : Prop := fnExactUnshuffleToUptoRow.holds Try.pinned (OpenSpec.upto fnExactUnshuffleToSpec)

/-- 'laws.FnUndone', WHERE WHAT IT READS IS OF BULK AT MOST 1048576: true; the input reads as it did. -/
def fnUndoneUptoRow : OpenClaim := { program := "ytojbjofngpcjaaa", sum := "b7225c2124b450c015a8849bd6abde0d93962120787eae7ab10e12470eaec9cc", func := "loop.example/g00846/laws.FnUndone", spec := "fnUndone", apart := false, narrowed := true }
def FnUndoneUptoSaid : Prop := fnUndoneUptoRow.holds Try.pinned (OpenSpec.upto fnUndoneSpec)

/-- 'laws.FnMoves', WHERE WHAT IT READS IS OF BULK AT MOST 1048576: true; the input reads as it did. -/
def fnMovesUptoRow : OpenClaim := { program := "ytojbjofngpcjaaa", sum := "b7225c2124b450c015a8849bd6abde0d93962120787eae7ab10e12470eaec9cc", func := "loop.example/g00846/laws.FnMoves", spec := "fnMoves", unfollowed := true, recurses := true, apart := false, narrowed := true }
def FnMovesUptoSaid : Prop := fnMovesUptoRow.holds Try.pinned (OpenSpec.upto fnMovesSpec)

end Rows
end Go.Proofs.Ytojbjofngpcjaaa
