/-
  No cell of these rows narrows 'for every input' (looked for: loops, veiled, ifaces, maps, wideKeys, modest, calm, conditions, laid).
  DERIVED. THE GIVEN ROWS OF THIS SEAT. 12 by the template 'for every input the law returns true; each argument reads behind the call as it read before'; 0 by the template 'total and deterministic' (their statements: YtplacpfdmcnaiaaTotals.lean).
  GIVEN WITH THE SEED: the statements are not yours to turn. If you find one false, say at which input.
  Laid BY PROGRAM, IN A SANDBOX (cutbox-rows.mjs): the forced cells as the released guide's own fill.sh prints them over the translation 7283374255645173… (all of the seat's roots in one cut). By AI agents, Wed Nov 11 2026. No macro, syntax, notation, axiom, sorry.
-/
import Derived.Test.YtplacpfdmcnaiaaChecked
import GoSem.Claim
import GoSem.ClaimJoined
import GoSem.ClaimMapViews
import Derived.JoinedTies
import Derived.KernelRfl
namespace Go.Proofs.Ytplacpfdmcnaiaa
/- THE CELL 'sum', in the pinned program and in every row, IS THE sha256 OF THE DUMP (.gsa) THAT YtplacpfdmcnaiaaProg.lean LOADS. Nothing in Lean hashes anything: it is a label: what it is worth is what the hold of that sum in a sandbox is worth. -/
noncomputable def Try.pinned : Pinned := { name := "ytplacpfdmcnaiaa", sum := "728337425564517365fa092832e58b78d7ede30d6ca4e2290326a1b3cdff334d", checked := Try.checked }
namespace Rows
def none {H : Type} : Left H := { results := [], args := [] }

/-- 'laws.FnExactConstants': WHATEVER THE INPUT: true; the input reads as it did. -/
def fnExactConstantsSpec : ChangeSpec := { name := "fnExactConstants", fn := fun _ => fun
  | [] => { results := [.lit (.bool true)], args := [] }
  | _ => none }
def fnExactConstantsRow : OpenClaim := { program := "ytplacpfdmcnaiaa", sum := "728337425564517365fa092832e58b78d7ede30d6ca4e2290326a1b3cdff334d", func := "loop.example/g00846/laws.FnExactConstants", spec := "fnExactConstants", apart := false }
def FnExactConstantsSaid : Prop := fnExactConstantsRow.holds Try.pinned (OpenSpec.ofChange fnExactConstantsSpec)

/-- ITS FALSE NEIGHBOUR: 'it returns false'. Refute it at one input. -/
def fnExactConstantsWrong : ChangeSpec := { name := "fnExactConstants", fn := fun _ => fun
  | [] => { results := [.lit (.bool false)], args := [] }
  | _ => none }
def FnExactConstantsWrongFalsely : Prop := fnExactConstantsRow.holds Try.pinned (OpenSpec.ofChange fnExactConstantsWrong)

/-- 'laws.FnExactIsUp': WHATEVER THE INPUT: true; the input reads as it did. -/
def fnExactIsUpSpec : ChangeSpec := { name := "fnExactIsUp", fn := fun _ => fun
  | [d] => { results := [.lit (.bool true)], args := [d] }
  | _ => none }
def fnExactIsUpRow : OpenClaim := { program := "ytplacpfdmcnaiaa", sum := "728337425564517365fa092832e58b78d7ede30d6ca4e2290326a1b3cdff334d", func := "loop.example/g00846/laws.FnExactIsUp", spec := "fnExactIsUp", apart := false }
def FnExactIsUpSaid : Prop := fnExactIsUpRow.holds Try.pinned (OpenSpec.ofChange fnExactIsUpSpec)

/-- ITS FALSE NEIGHBOUR: 'it returns false'. Refute it at one input. -/
def fnExactIsUpWrong : ChangeSpec := { name := "fnExactIsUp", fn := fun _ => fun
  | [d] => { results := [.lit (.bool false)], args := [d] }
  | _ => none }
def FnExactIsUpWrongFalsely : Prop := fnExactIsUpRow.holds Try.pinned (OpenSpec.ofChange fnExactIsUpWrong)

/-- 'laws.FnExactChoiceName': WHATEVER THE INPUT: true; the input reads as it did. -/
def fnExactChoiceNameSpec : ChangeSpec := { name := "fnExactChoiceName", fn := fun _ => fun
  | [d] => { results := [.lit (.bool true)], args := [d] }
  | _ => none }
def fnExactChoiceNameRow : OpenClaim := { program := "ytplacpfdmcnaiaa", sum := "728337425564517365fa092832e58b78d7ede30d6ca4e2290326a1b3cdff334d", func := "loop.example/g00846/laws.FnExactChoiceName", spec := "fnExactChoiceName", apart := false }
def FnExactChoiceNameSaid : Prop := fnExactChoiceNameRow.holds Try.pinned (OpenSpec.ofChange fnExactChoiceNameSpec)

/-- ITS FALSE NEIGHBOUR: 'it returns false'. Refute it at one input. -/
def fnExactChoiceNameWrong : ChangeSpec := { name := "fnExactChoiceName", fn := fun _ => fun
  | [d] => { results := [.lit (.bool false)], args := [d] }
  | _ => none }
def FnExactChoiceNameWrongFalsely : Prop := fnExactChoiceNameRow.holds Try.pinned (OpenSpec.ofChange fnExactChoiceNameWrong)

/-- 'laws.FnExactIsDigits': WHATEVER THE INPUT: true; the input reads as it did. -/
def fnExactIsDigitsSpec : ChangeSpec := { name := "fnExactIsDigits", fn := fun _ => fun
  | [d] => { results := [.lit (.bool true)], args := [d] }
  | _ => none }
def fnExactIsDigitsRow : OpenClaim := { program := "ytplacpfdmcnaiaa", sum := "728337425564517365fa092832e58b78d7ede30d6ca4e2290326a1b3cdff334d", func := "loop.example/g00846/laws.FnExactIsDigits", spec := "fnExactIsDigits", apart := false }
def FnExactIsDigitsSaid : Prop := fnExactIsDigitsRow.holds Try.pinned (OpenSpec.ofChange fnExactIsDigitsSpec)

/-- ITS FALSE NEIGHBOUR: 'it returns false'. Refute it at one input. -/
def fnExactIsDigitsWrong : ChangeSpec := { name := "fnExactIsDigits", fn := fun _ => fun
  | [d] => { results := [.lit (.bool false)], args := [d] }
  | _ => none }
def FnExactIsDigitsWrongFalsely : Prop := fnExactIsDigitsRow.holds Try.pinned (OpenSpec.ofChange fnExactIsDigitsWrong)

/-- 'laws.FnExactCountRiffles': WHATEVER THE INPUT: true; the input reads as it did. -/
def fnExactCountRifflesSpec : ChangeSpec := { name := "fnExactCountRiffles", fn := fun _ => fun
  | [d] => { results := [.lit (.bool true)], args := [d] }
  | _ => none }
def fnExactCountRifflesRow : OpenClaim := { program := "ytplacpfdmcnaiaa", sum := "728337425564517365fa092832e58b78d7ede30d6ca4e2290326a1b3cdff334d", func := "loop.example/g00846/laws.FnExactCountRiffles", spec := "fnExactCountRiffles", apart := false }
def FnExactCountRifflesSaid : Prop := fnExactCountRifflesRow.holds Try.pinned (OpenSpec.ofChange fnExactCountRifflesSpec)

/-- ITS FALSE NEIGHBOUR: 'it returns false'. Refute it at one input. -/
def fnExactCountRifflesWrong : ChangeSpec := { name := "fnExactCountRiffles", fn := fun _ => fun
  | [d] => { results := [.lit (.bool false)], args := [d] }
  | _ => none }
def FnExactCountRifflesWrongFalsely : Prop := fnExactCountRifflesRow.holds Try.pinned (OpenSpec.ofChange fnExactCountRifflesWrong)

/-- 'laws.FnExactCardOf': WHATEVER THE INPUT: true; the input reads as it did. -/
def fnExactCardOfSpec : ChangeSpec := { name := "fnExactCardOf", fn := fun _ => fun
  | [d] => { results := [.lit (.bool true)], args := [d] }
  | _ => none }
def fnExactCardOfRow : OpenClaim := { program := "ytplacpfdmcnaiaa", sum := "728337425564517365fa092832e58b78d7ede30d6ca4e2290326a1b3cdff334d", func := "loop.example/g00846/laws.FnExactCardOf", spec := "fnExactCardOf", apart := false }
def FnExactCardOfSaid : Prop := fnExactCardOfRow.holds Try.pinned (OpenSpec.ofChange fnExactCardOfSpec)

/-- ITS FALSE NEIGHBOUR: 'it returns false'. Refute it at one input. -/
def fnExactCardOfWrong : ChangeSpec := { name := "fnExactCardOf", fn := fun _ => fun
  | [d] => { results := [.lit (.bool false)], args := [d] }
  | _ => none }
def FnExactCardOfWrongFalsely : Prop := fnExactCardOfRow.holds Try.pinned (OpenSpec.ofChange fnExactCardOfWrong)

/-- 'laws.FnExactIsName': WHATEVER THE INPUT: true; the input reads as it did. -/
def fnExactIsNameSpec : ChangeSpec := { name := "fnExactIsName", fn := fun _ => fun
  | [d] => { results := [.lit (.bool true)], args := [d] }
  | _ => none }
def fnExactIsNameRow : OpenClaim := { program := "ytplacpfdmcnaiaa", sum := "728337425564517365fa092832e58b78d7ede30d6ca4e2290326a1b3cdff334d", func := "loop.example/g00846/laws.FnExactIsName", spec := "fnExactIsName", apart := false }
def FnExactIsNameSaid : Prop := fnExactIsNameRow.holds Try.pinned (OpenSpec.ofChange fnExactIsNameSpec)

/-- ITS FALSE NEIGHBOUR: 'it returns false'. Refute it at one input. -/
def fnExactIsNameWrong : ChangeSpec := { name := "fnExactIsName", fn := fun _ => fun
  | [d] => { results := [.lit (.bool false)], args := [d] }
  | _ => none }
def FnExactIsNameWrongFalsely : Prop := fnExactIsNameRow.holds Try.pinned (OpenSpec.ofChange fnExactIsNameWrong)

/-- 'laws.FnUnshuffles': WHATEVER THE INPUT: true; the input reads as it did. -/
def fnUnshufflesSpec : ChangeSpec := { name := "fnUnshuffles", fn := fun _ => fun
  | [d] => { results := [.lit (.bool true)], args := [d] }
  | _ => none }
def fnUnshufflesRow : OpenClaim := { program := "ytplacpfdmcnaiaa", sum := "728337425564517365fa092832e58b78d7ede30d6ca4e2290326a1b3cdff334d", func := "loop.example/g00846/laws.FnUnshuffles", spec := "fnUnshuffles", unfollowed := true, recurses := true, apart := false }
def FnUnshufflesSaid : Prop := fnUnshufflesRow.holds Try.pinned (OpenSpec.ofChange fnUnshufflesSpec)

/-- ITS FALSE NEIGHBOUR: 'it returns false'. Refute it at one input. -/
def fnUnshufflesWrong : ChangeSpec := { name := "fnUnshuffles", fn := fun _ => fun
  | [d] => { results := [.lit (.bool false)], args := [d] }
  | _ => none }
def FnUnshufflesWrongFalsely : Prop := fnUnshufflesRow.holds Try.pinned (OpenSpec.ofChange fnUnshufflesWrong)

/-- 'laws.FnExactMoveName': WHATEVER THE INPUT: true; the input reads as it did. -/
def fnExactMoveNameSpec : ChangeSpec := { name := "fnExactMoveName", fn := fun _ => fun
  | [d] => { results := [.lit (.bool true)], args := [d] }
  | _ => none }
def fnExactMoveNameRow : OpenClaim := { program := "ytplacpfdmcnaiaa", sum := "728337425564517365fa092832e58b78d7ede30d6ca4e2290326a1b3cdff334d", func := "loop.example/g00846/laws.FnExactMoveName", spec := "fnExactMoveName", apart := false }
def FnExactMoveNameSaid : Prop := fnExactMoveNameRow.holds Try.pinned (OpenSpec.ofChange fnExactMoveNameSpec)

/-- ITS FALSE NEIGHBOUR: 'it returns false'. Refute it at one input. -/
def fnExactMoveNameWrong : ChangeSpec := { name := "fnExactMoveName", fn := fun _ => fun
  | [d] => { results := [.lit (.bool false)], args := [d] }
  | _ => none }
def FnExactMoveNameWrongFalsely : Prop := fnExactMoveNameRow.holds Try.pinned (OpenSpec.ofChange fnExactMoveNameWrong)

/-- 'laws.FnExactMoveNamed': WHATEVER THE INPUT: true; the input reads as it did. -/
def fnExactMoveNamedSpec : ChangeSpec := { name := "fnExactMoveNamed", fn := fun _ => fun
  | [d] => { results := [.lit (.bool true)], args := [d] }
  | _ => none }
def fnExactMoveNamedRow : OpenClaim := { program := "ytplacpfdmcnaiaa", sum := "728337425564517365fa092832e58b78d7ede30d6ca4e2290326a1b3cdff334d", func := "loop.example/g00846/laws.FnExactMoveNamed", spec := "fnExactMoveNamed", apart := false }
def FnExactMoveNamedSaid : Prop := fnExactMoveNamedRow.holds Try.pinned (OpenSpec.ofChange fnExactMoveNamedSpec)

/-- ITS FALSE NEIGHBOUR: 'it returns false'. Refute it at one input. -/
def fnExactMoveNamedWrong : ChangeSpec := { name := "fnExactMoveNamed", fn := fun _ => fun
  | [d] => { results := [.lit (.bool false)], args := [d] }
  | _ => none }
def FnExactMoveNamedWrongFalsely : Prop := fnExactMoveNamedRow.holds Try.pinned (OpenSpec.ofChange fnExactMoveNamedWrong)

/-- 'laws.FnExactTurnCard': WHATEVER THE INPUT: true; the input reads as it did. -/
def fnExactTurnCardSpec : ChangeSpec := { name := "fnExactTurnCard", fn := fun _ => fun
  | [d] => { results := [.lit (.bool true)], args := [d] }
  | _ => none }
def fnExactTurnCardRow : OpenClaim := { program := "ytplacpfdmcnaiaa", sum := "728337425564517365fa092832e58b78d7ede30d6ca4e2290326a1b3cdff334d", func := "loop.example/g00846/laws.FnExactTurnCard", spec := "fnExactTurnCard", apart := false }
def FnExactTurnCardSaid : Prop := fnExactTurnCardRow.holds Try.pinned (OpenSpec.ofChange fnExactTurnCardSpec)

/-- ITS FALSE NEIGHBOUR: 'it returns false'. Refute it at one input. -/
def fnExactTurnCardWrong : ChangeSpec := { name := "fnExactTurnCard", fn := fun _ => fun
  | [d] => { results := [.lit (.bool false)], args := [d] }
  | _ => none }
def FnExactTurnCardWrongFalsely : Prop := fnExactTurnCardRow.holds Try.pinned (OpenSpec.ofChange fnExactTurnCardWrong)

/-- 'laws.FnExactMoveOk': WHATEVER THE INPUT: true; the input reads as it did. -/
def fnExactMoveOkSpec : ChangeSpec := { name := "fnExactMoveOk", fn := fun _ => fun
  | [d1, d2] => { results := [.lit (.bool true)], args := [d1, d2] }
  | _ => none }
def fnExactMoveOkRow : OpenClaim := { program := "ytplacpfdmcnaiaa", sum := "728337425564517365fa092832e58b78d7ede30d6ca4e2290326a1b3cdff334d", func := "loop.example/g00846/laws.FnExactMoveOk", spec := "fnExactMoveOk", apart := false }
def FnExactMoveOkSaid : Prop := fnExactMoveOkRow.holds Try.pinned (OpenSpec.ofChange fnExactMoveOkSpec)

/-- ITS FALSE NEIGHBOUR: 'it returns false'. Refute it at one input. -/
def fnExactMoveOkWrong : ChangeSpec := { name := "fnExactMoveOk", fn := fun _ => fun
  | [d1, d2] => { results := [.lit (.bool false)], args := [d1, d2] }
  | _ => none }
def FnExactMoveOkWrongFalsely : Prop := fnExactMoveOkRow.holds Try.pinned (OpenSpec.ofChange fnExactMoveOkWrong)

/- THE SECOND FORM. 'bulk': how many values and letters a reading holds, each counted each time it is reached (what is shared counts as often as it is met; a slice's spare places count too). A statement '..UptoSaid' is the law's where the arguments, and the package variables that the reading takes, are together of bulk at most 1048576: NARROWER than '..Said'. Prove '..Said' where nothing that the law and all that it calls make is longer than what came in: it says more and counts as full. Else prove '..UptoSaid'. A law counts once. -/
mutual
def uptoBulk {H : Type} : DataW H → Nat
  | .lit (.string bytes) => bytes.length + 1
  | .lit _ => 1
  | .nil => 1
  | .ptr d => uptoBulk d + 1
  | .slice elems spare => uptoBulkAll elems + uptoBulkAll spare + 1
  | .agg parts => uptoBulkAll parts + 1
  | .iface _ d => uptoBulk d + 1
  | .map entries => uptoBulkEntries entries + 1
  | .held _ => 1
def uptoBulkAll {H : Type} : List (DataW H) → Nat
  | [] => 0
  | d :: r => uptoBulk d + uptoBulkAll r
def uptoBulkEntries {H : Type} : List (Lit × DataW H) → Nat
  | [] => 0
  | x :: r => uptoBulkEntry x + uptoBulkEntries r
def uptoBulkEntry {H : Type} : Lit × DataW H → Nat
  | (.string bytes, d) => bytes.length + uptoBulk d + 1
  | (_, d) => uptoBulk d + 1
 end
def uptoSmall : (H : Type) → List (DataW H) → Bool := fun _ ds => decide (uptoBulkAll ds ≤ 1048576)
def OpenSpec.upto (s : _root_.Go.ChangeSpec) : _root_.Go.OpenSpec := { _root_.Go.OpenSpec.ofChange s with cond := some uptoSmall }

/-- 'laws.FnExactConstants', WHERE WHAT IT READS IS OF BULK AT MOST 1048576: true; the input reads as it did. -/
def fnExactConstantsUptoRow : OpenClaim := { program := "ytplacpfdmcnaiaa", sum := "728337425564517365fa092832e58b78d7ede30d6ca4e2290326a1b3cdff334d", func := "loop.example/g00846/laws.FnExactConstants", spec := "fnExactConstants", apart := false, narrowed := true }
def FnExactConstantsUptoSaid : Prop := fnExactConstantsUptoRow.holds Try.pinned (OpenSpec.upto fnExactConstantsSpec)

/-- 'laws.FnExactIsUp', WHERE WHAT IT READS IS OF BULK AT MOST 1048576: true; the input reads as it did. -/
def fnExactIsUpUptoRow : OpenClaim := { program := "ytplacpfdmcnaiaa", sum := "728337425564517365fa092832e58b78d7ede30d6ca4e2290326a1b3cdff334d", func := "loop.example/g00846/laws.FnExactIsUp", spec := "fnExactIsUp", apart := false, narrowed := true }
def FnExactIsUpUptoSaid : Prop := fnExactIsUpUptoRow.holds Try.pinned (OpenSpec.upto fnExactIsUpSpec)

/-- 'laws.FnExactChoiceName', WHERE WHAT IT READS IS OF BULK AT MOST 1048576: true; the input reads as it did. -/
def fnExactChoiceNameUptoRow : OpenClaim := { program := "ytplacpfdmcnaiaa", sum := "728337425564517365fa092832e58b78d7ede30d6ca4e2290326a1b3cdff334d", func := "loop.example/g00846/laws.FnExactChoiceName", spec := "fnExactChoiceName", apart := false, narrowed := true }
def FnExactChoiceNameUptoSaid : Prop := fnExactChoiceNameUptoRow.holds Try.pinned (OpenSpec.upto fnExactChoiceNameSpec)

/-- 'laws.FnExactIsDigits', WHERE WHAT IT READS IS OF BULK AT MOST 1048576: true; the input reads as it did. -/
def fnExactIsDigitsUptoRow : OpenClaim := { program := "ytplacpfdmcnaiaa", sum := "728337425564517365fa092832e58b78d7ede30d6ca4e2290326a1b3cdff334d", func := "loop.example/g00846/laws.FnExactIsDigits", spec := "fnExactIsDigits", apart := false, narrowed := true }
def FnExactIsDigitsUptoSaid : Prop := fnExactIsDigitsUptoRow.holds Try.pinned (OpenSpec.upto fnExactIsDigitsSpec)

/-- 'laws.FnExactCountRiffles', WHERE WHAT IT READS IS OF BULK AT MOST 1048576: true; the input reads as it did. -/
def fnExactCountRifflesUptoRow : OpenClaim := { program := "ytplacpfdmcnaiaa", sum := "728337425564517365fa092832e58b78d7ede30d6ca4e2290326a1b3cdff334d", func := "loop.example/g00846/laws.FnExactCountRiffles", spec := "fnExactCountRiffles", apart := false, narrowed := true }
def FnExactCountRifflesUptoSaid : Prop := fnExactCountRifflesUptoRow.holds Try.pinned (OpenSpec.upto fnExactCountRifflesSpec)

/-- 'laws.FnExactCardOf', WHERE WHAT IT READS IS OF BULK AT MOST 1048576: true; the input reads as it did. -/
def fnExactCardOfUptoRow : OpenClaim := { program := "ytplacpfdmcnaiaa", sum := "728337425564517365fa092832e58b78d7ede30d6ca4e2290326a1b3cdff334d", func := "loop.example/g00846/laws.FnExactCardOf", spec := "fnExactCardOf", apart := false, narrowed := true }
def FnExactCardOfUptoSaid : Prop := fnExactCardOfUptoRow.holds Try.pinned (OpenSpec.upto fnExactCardOfSpec)

/-- 'laws.FnExactIsName', WHERE WHAT IT READS IS OF BULK AT MOST 1048576: true; the input reads as it did. -/
def fnExactIsNameUptoRow : OpenClaim := { program := "ytplacpfdmcnaiaa", sum := "728337425564517365fa092832e58b78d7ede30d6ca4e2290326a1b3cdff334d", func := "loop.example/g00846/laws.FnExactIsName", spec := "fnExactIsName", apart := false, narrowed := true }
def FnExactIsNameUptoSaid : Prop := fnExactIsNameUptoRow.holds Try.pinned (OpenSpec.upto fnExactIsNameSpec)

/-- 'laws.FnUnshuffles', WHERE WHAT IT READS IS OF BULK AT MOST 1048576: true; the input reads as it did. -/
def fnUnshufflesUptoRow : OpenClaim := { program := "ytplacpfdmcnaiaa", sum := "728337425564517365fa092832e58b78d7ede30d6ca4e2290326a1b3cdff334d", func := "loop.example/g00846/laws.FnUnshuffles", spec := "fnUnshuffles", unfollowed := true, recurses := true, apart := false, narrowed := true }
def FnUnshufflesUptoSaid : Prop := fnUnshufflesUptoRow.holds Try.pinned (OpenSpec.upto fnUnshufflesSpec)

/-- 'laws.FnExactMoveName', WHERE WHAT IT READS IS OF BULK AT MOST 1048576: true; the input reads as it did. -/
def fnExactMoveNameUptoRow : OpenClaim := { program := "ytplacpfdmcnaiaa", sum := "728337425564517365fa092832e58b78d7ede30d6ca4e2290326a1b3cdff334d", func := "loop.example/g00846/laws.FnExactMoveName", spec := "fnExactMoveName", apart := false, narrowed := true }
def FnExactMoveNameUptoSaid : Prop := fnExactMoveNameUptoRow.holds Try.pinned (OpenSpec.upto fnExactMoveNameSpec)

/-- 'laws.FnExactMoveNamed', WHERE WHAT IT READS IS OF BULK AT MOST 1048576: true; the input reads as it did. -/
def fnExactMoveNamedUptoRow : OpenClaim := { program := "ytplacpfdmcnaiaa", sum := "728337425564517365fa092832e58b78d7ede30d6ca4e2290326a1b3cdff334d", func := "loop.example/g00846/laws.FnExactMoveNamed", spec := "fnExactMoveNamed", apart := false, narrowed := true }
def FnExactMoveNamedUptoSaid : Prop := fnExactMoveNamedUptoRow.holds Try.pinned (OpenSpec.upto fnExactMoveNamedSpec)

/-- 'laws.FnExactTurnCard', WHERE WHAT IT READS IS OF BULK AT MOST 1048576: true; the input reads as it did. -/
def fnExactTurnCardUptoRow : OpenClaim := { program := "ytplacpfdmcnaiaa", sum := "728337425564517365fa092832e58b78d7ede30d6ca4e2290326a1b3cdff334d", func := "loop.example/g00846/laws.FnExactTurnCard", spec := "fnExactTurnCard", apart := false, narrowed := true }
def FnExactTurnCardUptoSaid : Prop := fnExactTurnCardUptoRow.holds Try.pinned (OpenSpec.upto fnExactTurnCardSpec)

/-- 'laws.FnExactMoveOk', WHERE WHAT IT READS IS OF BULK AT MOST 1048576: true; the input reads as it did. -/
def fnExactMoveOkUptoRow : OpenClaim := { program := "ytplacpfdmcnaiaa", sum := "728337425564517365fa092832e58b78d7ede30d6ca4e2290326a1b3cdff334d", func := "loop.example/g00846/laws.FnExactMoveOk", spec := "fnExactMoveOk", apart := false, narrowed := true }
def FnExactMoveOkUptoSaid : Prop := fnExactMoveOkUptoRow.holds Try.pinned (OpenSpec.upto fnExactMoveOkSpec)

end Rows
end Go.Proofs.Ytplacpfdmcnaiaa
