/-
  No cell of these rows narrows 'for every input' (looked for: loops, veiled, ifaces, maps, wideKeys, modest, calm, conditions, laid).
  DERIVED. THE GIVEN ROWS OF THIS SEAT. 13 by the template 'for every input the law returns true; each argument reads behind the call as it read before'; 0 by the template 'total and deterministic' (their statements: YtaeicjfkdkjplaaTotals.lean).
  GIVEN WITH THE SEED: the statements are not yours to turn. If you find one false, say at which input.
  Laid BY PROGRAM, IN A SANDBOX (cutbox-rows.mjs): the forced cells as the released guide's own fill.sh prints them over the translation 93c227150be2a79c… (all of the seat's roots in one cut). By AI agents, Wed Nov 11 2026. No macro, syntax, notation, axiom, sorry.
-/
import Derived.Test.YtaeicjfkdkjplaaChecked
import GoSem.Claim
import GoSem.ClaimJoined
import GoSem.ClaimMapViews
import Derived.JoinedTies
import Derived.KernelRfl
namespace Go.Proofs.Ytaeicjfkdkjplaa
/- THE CELL 'sum', in the pinned program and in every row, IS THE sha256 OF THE DUMP (.gsa) THAT YtaeicjfkdkjplaaProg.lean LOADS. Nothing in Lean hashes anything: it is a label: what it is worth is what the hold of that sum in a sandbox is worth. -/
noncomputable def Try.pinned : Pinned := { name := "ytaeicjfkdkjplaa", sum := "93c227150be2a79c2bf07573270d94e501b63932c4d21b7f7a1c78e43e5c0cf2", checked := Try.checked }
namespace Rows
def none {H : Type} : Left H := { results := [], args := [] }

/-- 'laws.FnExactIsEven': WHATEVER THE INPUT: true; the input reads as it did. -/
def fnExactIsEvenSpec : ChangeSpec := { name := "fnExactIsEven", fn := fun _ => fun
  | [d] => { results := [.lit (.bool true)], args := [d] }
  | _ => none }
def fnExactIsEvenRow : OpenClaim := { program := "ytaeicjfkdkjplaa", sum := "93c227150be2a79c2bf07573270d94e501b63932c4d21b7f7a1c78e43e5c0cf2", func := "loop.example/g00846/laws.FnExactIsEven", spec := "fnExactIsEven", apart := false }
def FnExactIsEvenSaid : Prop := fnExactIsEvenRow.holds Try.pinned (OpenSpec.ofChange fnExactIsEvenSpec)

/-- ITS FALSE NEIGHBOUR: 'it returns false'. Refute it at one input. -/
def fnExactIsEvenWrong : ChangeSpec := { name := "fnExactIsEven", fn := fun _ => fun
  | [d] => { results := [.lit (.bool false)], args := [d] }
  | _ => none }
def FnExactIsEvenWrongFalsely : Prop := fnExactIsEvenRow.holds Try.pinned (OpenSpec.ofChange fnExactIsEvenWrong)

/-- 'laws.FnExactColorsAfter': WHATEVER THE INPUT: true; the input reads as it did. -/
def fnExactColorsAfterSpec : ChangeSpec := { name := "fnExactColorsAfter", fn := fun _ => fun
  | [d1, d2] => { results := [.lit (.bool true)], args := [d1, d2] }
  | _ => none }
def fnExactColorsAfterRow : OpenClaim := { program := "ytaeicjfkdkjplaa", sum := "93c227150be2a79c2bf07573270d94e501b63932c4d21b7f7a1c78e43e5c0cf2", func := "loop.example/g00846/laws.FnExactColorsAfter", spec := "fnExactColorsAfter", apart := false }
def FnExactColorsAfterSaid : Prop := fnExactColorsAfterRow.holds Try.pinned (OpenSpec.ofChange fnExactColorsAfterSpec)

/-- ITS FALSE NEIGHBOUR: 'it returns false'. Refute it at one input. -/
def fnExactColorsAfterWrong : ChangeSpec := { name := "fnExactColorsAfter", fn := fun _ => fun
  | [d1, d2] => { results := [.lit (.bool false)], args := [d1, d2] }
  | _ => none }
def FnExactColorsAfterWrongFalsely : Prop := fnExactColorsAfterRow.holds Try.pinned (OpenSpec.ofChange fnExactColorsAfterWrong)

/-- 'laws.FnExactInversePerm': WHATEVER THE INPUT: true; the input reads as it did. -/
def fnExactInversePermSpec : ChangeSpec := { name := "fnExactInversePerm", fn := fun _ => fun
  | [d] => { results := [.lit (.bool true)], args := [d] }
  | _ => none }
def fnExactInversePermRow : OpenClaim := { program := "ytaeicjfkdkjplaa", sum := "93c227150be2a79c2bf07573270d94e501b63932c4d21b7f7a1c78e43e5c0cf2", func := "loop.example/g00846/laws.FnExactInversePerm", spec := "fnExactInversePerm", apart := false }
def FnExactInversePermSaid : Prop := fnExactInversePermRow.holds Try.pinned (OpenSpec.ofChange fnExactInversePermSpec)

/-- ITS FALSE NEIGHBOUR: 'it returns false'. Refute it at one input. -/
def fnExactInversePermWrong : ChangeSpec := { name := "fnExactInversePerm", fn := fun _ => fun
  | [d] => { results := [.lit (.bool false)], args := [d] }
  | _ => none }
def FnExactInversePermWrongFalsely : Prop := fnExactInversePermRow.holds Try.pinned (OpenSpec.ofChange fnExactInversePermWrong)

/-- 'laws.FnExactComposePerms': WHATEVER THE INPUT: true; the input reads as it did. -/
def fnExactComposePermsSpec : ChangeSpec := { name := "fnExactComposePerms", fn := fun _ => fun
  | [d1, d2] => { results := [.lit (.bool true)], args := [d1, d2] }
  | _ => none }
def fnExactComposePermsRow : OpenClaim := { program := "ytaeicjfkdkjplaa", sum := "93c227150be2a79c2bf07573270d94e501b63932c4d21b7f7a1c78e43e5c0cf2", func := "loop.example/g00846/laws.FnExactComposePerms", spec := "fnExactComposePerms", apart := false }
def FnExactComposePermsSaid : Prop := fnExactComposePermsRow.holds Try.pinned (OpenSpec.ofChange fnExactComposePermsSpec)

/-- ITS FALSE NEIGHBOUR: 'it returns false'. Refute it at one input. -/
def fnExactComposePermsWrong : ChangeSpec := { name := "fnExactComposePerms", fn := fun _ => fun
  | [d1, d2] => { results := [.lit (.bool false)], args := [d1, d2] }
  | _ => none }
def FnExactComposePermsWrongFalsely : Prop := fnExactComposePermsRow.holds Try.pinned (OpenSpec.ofChange fnExactComposePermsWrong)

/-- 'laws.FnExactIsGilbreath': WHATEVER THE INPUT: true; the input reads as it did. -/
def fnExactIsGilbreathSpec : ChangeSpec := { name := "fnExactIsGilbreath", fn := fun _ => fun
  | [d] => { results := [.lit (.bool true)], args := [d] }
  | _ => none }
def fnExactIsGilbreathRow : OpenClaim := { program := "ytaeicjfkdkjplaa", sum := "93c227150be2a79c2bf07573270d94e501b63932c4d21b7f7a1c78e43e5c0cf2", func := "loop.example/g00846/laws.FnExactIsGilbreath", spec := "fnExactIsGilbreath", apart := false }
def FnExactIsGilbreathSaid : Prop := fnExactIsGilbreathRow.holds Try.pinned (OpenSpec.ofChange fnExactIsGilbreathSpec)

/-- ITS FALSE NEIGHBOUR: 'it returns false'. Refute it at one input. -/
def fnExactIsGilbreathWrong : ChangeSpec := { name := "fnExactIsGilbreath", fn := fun _ => fun
  | [d] => { results := [.lit (.bool false)], args := [d] }
  | _ => none }
def FnExactIsGilbreathWrongFalsely : Prop := fnExactIsGilbreathRow.holds Try.pinned (OpenSpec.ofChange fnExactIsGilbreathWrong)

/-- 'laws.FnExactGilbreathsOf': WHATEVER THE INPUT: true; the input reads as it did. -/
def fnExactGilbreathsOfSpec : ChangeSpec := { name := "fnExactGilbreathsOf", fn := fun _ => fun
  | [d] => { results := [.lit (.bool true)], args := [d] }
  | _ => none }
def fnExactGilbreathsOfRow : OpenClaim := { program := "ytaeicjfkdkjplaa", sum := "93c227150be2a79c2bf07573270d94e501b63932c4d21b7f7a1c78e43e5c0cf2", func := "loop.example/g00846/laws.FnExactGilbreathsOf", spec := "fnExactGilbreathsOf", recurses := true, apart := false }
def FnExactGilbreathsOfSaid : Prop := fnExactGilbreathsOfRow.holds Try.pinned (OpenSpec.ofChange fnExactGilbreathsOfSpec)

/-- ITS FALSE NEIGHBOUR: 'it returns false'. Refute it at one input. -/
def fnExactGilbreathsOfWrong : ChangeSpec := { name := "fnExactGilbreathsOf", fn := fun _ => fun
  | [d] => { results := [.lit (.bool false)], args := [d] }
  | _ => none }
def FnExactGilbreathsOfWrongFalsely : Prop := fnExactGilbreathsOfRow.holds Try.pinned (OpenSpec.ofChange fnExactGilbreathsOfWrong)

/-- 'laws.FnExactJoin': WHATEVER THE INPUT: true; the input reads as it did. -/
def fnExactJoinSpec : ChangeSpec := { name := "fnExactJoin", fn := fun _ => fun
  | [d1, d2] => { results := [.lit (.bool true)], args := [d1, d2] }
  | _ => none }
def fnExactJoinRow : OpenClaim := { program := "ytaeicjfkdkjplaa", sum := "93c227150be2a79c2bf07573270d94e501b63932c4d21b7f7a1c78e43e5c0cf2", func := "loop.example/g00846/laws.FnExactJoin", spec := "fnExactJoin", inPlace := ["internal/abi.NoEscape", "internal/bytealg.MakeNoZero"], apart := false }
def FnExactJoinSaid : Prop := fnExactJoinRow.holds Try.pinned (OpenSpec.ofChange fnExactJoinSpec)

/-- ITS FALSE NEIGHBOUR: 'it returns false'. Refute it at one input. -/
def fnExactJoinWrong : ChangeSpec := { name := "fnExactJoin", fn := fun _ => fun
  | [d1, d2] => { results := [.lit (.bool false)], args := [d1, d2] }
  | _ => none }
def FnExactJoinWrongFalsely : Prop := fnExactJoinRow.holds Try.pinned (OpenSpec.ofChange fnExactJoinWrong)

/-- 'laws.FnExactIsArrangement': WHATEVER THE INPUT: true; the input reads as it did. -/
def fnExactIsArrangementSpec : ChangeSpec := { name := "fnExactIsArrangement", fn := fun _ => fun
  | [d1, d2] => { results := [.lit (.bool true)], args := [d1, d2] }
  | _ => none }
def fnExactIsArrangementRow : OpenClaim := { program := "ytaeicjfkdkjplaa", sum := "93c227150be2a79c2bf07573270d94e501b63932c4d21b7f7a1c78e43e5c0cf2", func := "loop.example/g00846/laws.FnExactIsArrangement", spec := "fnExactIsArrangement", unfollowed := true, recurses := true, apart := false }
def FnExactIsArrangementSaid : Prop := fnExactIsArrangementRow.holds Try.pinned (OpenSpec.ofChange fnExactIsArrangementSpec)

/-- ITS FALSE NEIGHBOUR: 'it returns false'. Refute it at one input. -/
def fnExactIsArrangementWrong : ChangeSpec := { name := "fnExactIsArrangement", fn := fun _ => fun
  | [d1, d2] => { results := [.lit (.bool false)], args := [d1, d2] }
  | _ => none }
def FnExactIsArrangementWrongFalsely : Prop := fnExactIsArrangementRow.holds Try.pinned (OpenSpec.ofChange fnExactIsArrangementWrong)

/-- 'laws.FnExactIsRiffle': WHATEVER THE INPUT: true; the input reads as it did. -/
def fnExactIsRiffleSpec : ChangeSpec := { name := "fnExactIsRiffle", fn := fun _ => fun
  | [d] => { results := [.lit (.bool true)], args := [d] }
  | _ => none }
def fnExactIsRiffleRow : OpenClaim := { program := "ytaeicjfkdkjplaa", sum := "93c227150be2a79c2bf07573270d94e501b63932c4d21b7f7a1c78e43e5c0cf2", func := "loop.example/g00846/laws.FnExactIsRiffle", spec := "fnExactIsRiffle", apart := false }
def FnExactIsRiffleSaid : Prop := fnExactIsRiffleRow.holds Try.pinned (OpenSpec.ofChange fnExactIsRiffleSpec)

/-- ITS FALSE NEIGHBOUR: 'it returns false'. Refute it at one input. -/
def fnExactIsRiffleWrong : ChangeSpec := { name := "fnExactIsRiffle", fn := fun _ => fun
  | [d] => { results := [.lit (.bool false)], args := [d] }
  | _ => none }
def FnExactIsRiffleWrongFalsely : Prop := fnExactIsRiffleRow.holds Try.pinned (OpenSpec.ofChange fnExactIsRiffleWrong)

/-- 'laws.FnExactGilbreathCut': WHATEVER THE INPUT: true; the input reads as it did. -/
def fnExactGilbreathCutSpec : ChangeSpec := { name := "fnExactGilbreathCut", fn := fun _ => fun
  | [d] => { results := [.lit (.bool true)], args := [d] }
  | _ => none }
def fnExactGilbreathCutRow : OpenClaim := { program := "ytaeicjfkdkjplaa", sum := "93c227150be2a79c2bf07573270d94e501b63932c4d21b7f7a1c78e43e5c0cf2", func := "loop.example/g00846/laws.FnExactGilbreathCut", spec := "fnExactGilbreathCut", apart := false }
def FnExactGilbreathCutSaid : Prop := fnExactGilbreathCutRow.holds Try.pinned (OpenSpec.ofChange fnExactGilbreathCutSpec)

/-- ITS FALSE NEIGHBOUR: 'it returns false'. Refute it at one input. -/
def fnExactGilbreathCutWrong : ChangeSpec := { name := "fnExactGilbreathCut", fn := fun _ => fun
  | [d] => { results := [.lit (.bool false)], args := [d] }
  | _ => none }
def FnExactGilbreathCutWrongFalsely : Prop := fnExactGilbreathCutRow.holds Try.pinned (OpenSpec.ofChange fnExactGilbreathCutWrong)

/-- 'laws.FnExactPowerPerm': WHATEVER THE INPUT: true; the input reads as it did. -/
def fnExactPowerPermSpec : ChangeSpec := { name := "fnExactPowerPerm", fn := fun _ => fun
  | [d1, d2] => { results := [.lit (.bool true)], args := [d1, d2] }
  | _ => none }
def fnExactPowerPermRow : OpenClaim := { program := "ytaeicjfkdkjplaa", sum := "93c227150be2a79c2bf07573270d94e501b63932c4d21b7f7a1c78e43e5c0cf2", func := "loop.example/g00846/laws.FnExactPowerPerm", spec := "fnExactPowerPerm", apart := false }
def FnExactPowerPermSaid : Prop := fnExactPowerPermRow.holds Try.pinned (OpenSpec.ofChange fnExactPowerPermSpec)

/-- ITS FALSE NEIGHBOUR: 'it returns false'. Refute it at one input. -/
def fnExactPowerPermWrong : ChangeSpec := { name := "fnExactPowerPerm", fn := fun _ => fun
  | [d1, d2] => { results := [.lit (.bool false)], args := [d1, d2] }
  | _ => none }
def FnExactPowerPermWrongFalsely : Prop := fnExactPowerPermRow.holds Try.pinned (OpenSpec.ofChange fnExactPowerPermWrong)

/-- 'laws.FnExactSplitOf': WHATEVER THE INPUT: true; the input reads as it did. -/
def fnExactSplitOfSpec : ChangeSpec := { name := "fnExactSplitOf", fn := fun _ => fun
  | [d] => { results := [.lit (.bool true)], args := [d] }
  | _ => none }
def fnExactSplitOfRow : OpenClaim := { program := "ytaeicjfkdkjplaa", sum := "93c227150be2a79c2bf07573270d94e501b63932c4d21b7f7a1c78e43e5c0cf2", func := "loop.example/g00846/laws.FnExactSplitOf", spec := "fnExactSplitOf", apart := false }
def FnExactSplitOfSaid : Prop := fnExactSplitOfRow.holds Try.pinned (OpenSpec.ofChange fnExactSplitOfSpec)

/-- ITS FALSE NEIGHBOUR: 'it returns false'. Refute it at one input. -/
def fnExactSplitOfWrong : ChangeSpec := { name := "fnExactSplitOf", fn := fun _ => fun
  | [d] => { results := [.lit (.bool false)], args := [d] }
  | _ => none }
def FnExactSplitOfWrongFalsely : Prop := fnExactSplitOfRow.holds Try.pinned (OpenSpec.ofChange fnExactSplitOfWrong)

/-- 'laws.FnExactRiffleWays': WHATEVER THE INPUT: true; the input reads as it did. -/
def fnExactRiffleWaysSpec : ChangeSpec := { name := "fnExactRiffleWays", fn := fun _ => fun
  | [d] => { results := [.lit (.bool true)], args := [d] }
  | _ => none }
def fnExactRiffleWaysRow : OpenClaim := { program := "ytaeicjfkdkjplaa", sum := "93c227150be2a79c2bf07573270d94e501b63932c4d21b7f7a1c78e43e5c0cf2", func := "loop.example/g00846/laws.FnExactRiffleWays", spec := "fnExactRiffleWays", apart := false }
def FnExactRiffleWaysSaid : Prop := fnExactRiffleWaysRow.holds Try.pinned (OpenSpec.ofChange fnExactRiffleWaysSpec)

/-- ITS FALSE NEIGHBOUR: 'it returns false'. Refute it at one input. -/
def fnExactRiffleWaysWrong : ChangeSpec := { name := "fnExactRiffleWays", fn := fun _ => fun
  | [d] => { results := [.lit (.bool false)], args := [d] }
  | _ => none }
def FnExactRiffleWaysWrongFalsely : Prop := fnExactRiffleWaysRow.holds Try.pinned (OpenSpec.ofChange fnExactRiffleWaysWrong)

/- THE SECOND FORM. 'bulk': how many values and letters a reading holds, each counted each time it is reached (what is shared counts as often as it is met; a slice's spare places count too). A statement '..UptoSaid' is the law's where the arguments, and the package variables that the reading takes, are together of bulk at most 1048576: NARROWER than '..Said'. Prove '..Said' where nothing that the law and all that it calls make is longer than what came in: it says more and counts as full. Else prove '..UptoSaid'. A law counts once. -/
mutual
def uptoBulk {H : Type} : DataW H → Nat
  | .lit (.string bytes) => bytes.length + 1
  | .lit _ => 1
  | .nil => 1
  | .ptr d => uptoBulk d + 1
  | .slice elems spare => uptoBulkAll elems + uptoBulkAll spare + 1
  | .agg parts => uptoBulkAll parts + 1
  | .iface _ d => uptoBulk d + 1
  | .map entries => uptoBulkEntries entries + 1
  | .held _ => 1
def uptoBulkAll {H : Type} : List (DataW H) → Nat
  | [] => 0
  | d :: r => uptoBulk d + uptoBulkAll r
def uptoBulkEntries {H : Type} : List (Lit × DataW H) → Nat
  | [] => 0
  | x :: r => uptoBulkEntry x + uptoBulkEntries r
def uptoBulkEntry {H : Type} : Lit × DataW H → Nat
  | (.string bytes, d) => bytes.length + uptoBulk d + 1
  | (_, d) => uptoBulk d + 1
 end
def uptoSmall : (H : Type) → List (DataW H) → Bool := fun _ ds => decide (uptoBulkAll ds ≤ 1048576)
def OpenSpec.upto (s : _root_.Go.ChangeSpec) : _root_.Go.OpenSpec := { _root_.Go.OpenSpec.ofChange s with cond := some uptoSmall }

/-- 'laws.FnExactIsEven', WHERE WHAT IT READS IS OF BULK AT MOST 1048576: true; the input reads as it did. -/
def fnExactIsEvenUptoRow : OpenClaim := { program := "ytaeicjfkdkjplaa", sum := "93c227150be2a79c2bf07573270d94e501b63932c4d21b7f7a1c78e43e5c0cf2", func := "loop.example/g00846/laws.FnExactIsEven", spec := "fnExactIsEven", apart := false, narrowed := true }
def FnExactIsEvenUptoSaid : Prop := fnExactIsEvenUptoRow.holds Try.pinned (OpenSpec.upto fnExactIsEvenSpec)

/-- 'laws.FnExactColorsAfter', WHERE WHAT IT READS IS OF BULK AT MOST 1048576: true; the input reads as it did. -/
def fnExactColorsAfterUptoRow : OpenClaim := { program := "ytaeicjfkdkjplaa", sum := "93c227150be2a79c2bf07573270d94e501b63932c4d21b7f7a1c78e43e5c0cf2", func := "loop.example/g00846/laws.FnExactColorsAfter", spec := "fnExactColorsAfter", apart := false, narrowed := true }
def FnExactColorsAfterUptoSaid : Prop := fnExactColorsAfterUptoRow.holds Try.pinned (OpenSpec.upto fnExactColorsAfterSpec)

/-- 'laws.FnExactInversePerm', WHERE WHAT IT READS IS OF BULK AT MOST 1048576: true; the input reads as it did. -/
def fnExactInversePermUptoRow : OpenClaim := { program := "ytaeicjfkdkjplaa", sum := "93c227150be2a79c2bf07573270d94e501b63932c4d21b7f7a1c78e43e5c0cf2", func := "loop.example/g00846/laws.FnExactInversePerm", spec := "fnExactInversePerm", apart := false, narrowed := true }
def FnExactInversePermUptoSaid : Prop := fnExactInversePermUptoRow.holds Try.pinned (OpenSpec.upto fnExactInversePermSpec)

/-- 'laws.FnExactComposePerms', WHERE WHAT IT READS IS OF BULK AT MOST 1048576: true; the input reads as it did. -/
def fnExactComposePermsUptoRow : OpenClaim := { program := "ytaeicjfkdkjplaa", sum := "93c227150be2a79c2bf07573270d94e501b63932c4d21b7f7a1c78e43e5c0cf2", func := "loop.example/g00846/laws.FnExactComposePerms", spec := "fnExactComposePerms", apart := false, narrowed := true }
def FnExactComposePermsUptoSaid : Prop := fnExactComposePermsUptoRow.holds Try.pinned (OpenSpec.upto fnExactComposePermsSpec)

/-- 'laws.FnExactIsGilbreath', WHERE WHAT IT READS IS OF BULK AT MOST 1048576: true; the input reads as it did. -/
def fnExactIsGilbreathUptoRow : OpenClaim := { program := "ytaeicjfkdkjplaa", sum := "93c227150be2a79c2bf07573270d94e501b63932c4d21b7f7a1c78e43e5c0cf2", func := "loop.example/g00846/laws.FnExactIsGilbreath", spec := "fnExactIsGilbreath", apart := false, narrowed := true }
def FnExactIsGilbreathUptoSaid : Prop := fnExactIsGilbreathUptoRow.holds Try.pinned (OpenSpec.upto fnExactIsGilbreathSpec)

/-- 'laws.FnExactGilbreathsOf', WHERE WHAT IT READS IS OF BULK AT MOST 1048576: true; the input reads as it did. -/
def fnExactGilbreathsOfUptoRow : OpenClaim := { program := "ytaeicjfkdkjplaa", sum := "93c227150be2a79c2bf07573270d94e501b63932c4d21b7f7a1c78e43e5c0cf2", func := "loop.example/g00846/laws.FnExactGilbreathsOf", spec := "fnExactGilbreathsOf", recurses := true, apart := false, narrowed := true }
def FnExactGilbreathsOfUptoSaid : Prop := fnExactGilbreathsOfUptoRow.holds Try.pinned (OpenSpec.upto fnExactGilbreathsOfSpec)

/-- 'laws.FnExactJoin', WHERE WHAT IT READS IS OF BULK AT MOST 1048576: true; the input reads as it did. -/
def fnExactJoinUptoRow : OpenClaim := { program := "ytaeicjfkdkjplaa", sum := "93c227150be2a79c2bf07573270d94e501b63932c4d21b7f7a1c78e43e5c0cf2", func := "loop.example/g00846/laws.FnExactJoin", spec := "fnExactJoin", inPlace := ["internal/abi.NoEscape", "internal/bytealg.MakeNoZero"], apart := false, narrowed := true }
def FnExactJoinUptoSaid : Prop := fnExactJoinUptoRow.holds Try.pinned (OpenSpec.upto fnExactJoinSpec)

/-- 'laws.FnExactIsArrangement', WHERE WHAT IT READS IS OF BULK AT MOST 1048576: true; the input reads as it did. -/
def fnExactIsArrangementUptoRow : OpenClaim := { program := "ytaeicjfkdkjplaa", sum := "93c227150be2a79c2bf07573270d94e501b63932c4d21b7f7a1c78e43e5c0cf2", func := "loop.example/g00846/laws.FnExactIsArrangement", spec := "fnExactIsArrangement", unfollowed := true, recurses := true, apart := false, narrowed := true }
def FnExactIsArrangementUptoSaid : Prop := fnExactIsArrangementUptoRow.holds Try.pinned (OpenSpec.upto fnExactIsArrangementSpec)

/-- 'laws.FnExactIsRiffle', WHERE WHAT IT READS IS OF BULK AT MOST 1048576: true; the input reads as it did. -/
def fnExactIsRiffleUptoRow : OpenClaim := { program := "ytaeicjfkdkjplaa", sum := "93c227150be2a79c2bf07573270d94e501b63932c4d21b7f7a1c78e43e5c0cf2", func := "loop.example/g00846/laws.FnExactIsRiffle", spec := "fnExactIsRiffle", apart := false, narrowed := true }
def FnExactIsRiffleUptoSaid : Prop := fnExactIsRiffleUptoRow.holds Try.pinned (OpenSpec.upto fnExactIsRiffleSpec)

/-- 'laws.FnExactGilbreathCut', WHERE WHAT IT READS IS OF BULK AT MOST 1048576: true; the input reads as it did. -/
def fnExactGilbreathCutUptoRow : OpenClaim := { program := "ytaeicjfkdkjplaa", sum := "93c227150be2a79c2bf07573270d94e501b63932c4d21b7f7a1c78e43e5c0cf2", func := "loop.example/g00846/laws.FnExactGilbreathCut", spec := "fnExactGilbreathCut", apart := false, narrowed := true }
def FnExactGilbreathCutUptoSaid : Prop := fnExactGilbreathCutUptoRow.holds Try.pinned (OpenSpec.upto fnExactGilbreathCutSpec)

/-- 'laws.FnExactPowerPerm', WHERE WHAT IT READS IS OF BULK AT MOST 1048576: true; the input reads as it did. -/
def fnExactPowerPermUptoRow : OpenClaim := { program := "ytaeicjfkdkjplaa", sum := "93c227150be2a79c2bf07573270d94e501b63932c4d21b7f7a1c78e43e5c0cf2", func := "loop.example/g00846/laws.FnExactPowerPerm", spec := "fnExactPowerPerm", apart := false, narrowed := true }
def FnExactPowerPermUptoSaid : Prop := fnExactPowerPermUptoRow.holds Try.pinned (OpenSpec.upto fnExactPowerPermSpec)

/-- 'laws.FnExactSplitOf', WHERE WHAT IT READS IS OF BULK AT MOST 1048576: true; the input reads as it did. -/
def fnExactSplitOfUptoRow : OpenClaim := { program := "ytaeicjfkdkjplaa", sum := "93c227150be2a79c2bf07573270d94e501b63932c4d21b7f7a1c78e43e5c0cf2", func := "loop.example/g00846/laws.FnExactSplitOf", spec := "fnExactSplitOf", apart := false, narrowed := true }
def FnExactSplitOfUptoSaid : Prop := fnExactSplitOfUptoRow.holds Try.pinned (OpenSpec.upto fnExactSplitOfSpec)

/-- 'laws.FnExactRiffleWays', WHERE WHAT IT READS IS OF BULK AT MOST 1048576: true; the input reads as it did. -/
def fnExactRiffleWaysUptoRow : OpenClaim := { program := "ytaeicjfkdkjplaa", sum := "93c227150be2a79c2bf07573270d94e501b63932c4d21b7f7a1c78e43e5c0cf2", func := "loop.example/g00846/laws.FnExactRiffleWays", spec := "fnExactRiffleWays", apart := false, narrowed := true }
def FnExactRiffleWaysUptoSaid : Prop := fnExactRiffleWaysUptoRow.holds Try.pinned (OpenSpec.upto fnExactRiffleWaysSpec)

end Rows
end Go.Proofs.Ytaeicjfkdkjplaa
