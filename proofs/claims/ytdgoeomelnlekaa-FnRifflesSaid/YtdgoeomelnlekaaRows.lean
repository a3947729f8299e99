/-
  No cell of these rows narrows 'for every input' (looked for: loops, veiled, ifaces, maps, wideKeys, modest, calm, conditions, laid).
  DERIVED. THE GIVEN ROWS OF THIS SEAT. 13 by the template 'for every input the law returns true; each argument reads behind the call as it read before'; 0 by the template 'total and deterministic' (their statements: YtdgoeomelnlekaaTotals.lean).
  GIVEN WITH THE SEED: the statements are not yours to turn. If you find one false, say at which input.
  Laid BY PROGRAM, IN A SANDBOX (cutbox-rows.mjs): the forced cells as the released guide's own fill.sh prints them over the translation 3a04582338321d04… (all of the seat's roots in one cut). By AI agents, Wed Nov 11 2026. No macro, syntax, notation, axiom, sorry.
-/
import Derived.Test.YtdgoeomelnlekaaChecked
import GoSem.Claim
import GoSem.ClaimJoined
import GoSem.ClaimMapViews
import Derived.JoinedTies
import Derived.KernelRfl
namespace Go.Proofs.Ytdgoeomelnlekaa
/- THE CELL 'sum', in the pinned program and in every row, IS THE sha256 OF THE DUMP (.gsa) THAT YtdgoeomelnlekaaProg.lean LOADS. Nothing in Lean hashes anything: it is a label: what it is worth is what the hold of that sum in a sandbox is worth. -/
noncomputable def Try.pinned : Pinned := { name := "ytdgoeomelnlekaa", sum := "3a04582338321d041106f00914b9161778a9e33bd9b73d7596a773c4876ca80b", checked := Try.checked }
namespace Rows
def none {H : Type} : Left H := { results := [], args := [] }

/-- 'laws.FnExactSamePacket': WHATEVER THE INPUT: true; the input reads as it did. -/
def fnExactSamePacketSpec : ChangeSpec := { name := "fnExactSamePacket", fn := fun _ => fun
  | [d1, d2] => { results := [.lit (.bool true)], args := [d1, d2] }
  | _ => none }
def fnExactSamePacketRow : OpenClaim := { program := "ytdgoeomelnlekaa", sum := "3a04582338321d041106f00914b9161778a9e33bd9b73d7596a773c4876ca80b", func := "loop.example/g00846/laws.FnExactSamePacket", spec := "fnExactSamePacket", apart := false }
def FnExactSamePacketSaid : Prop := fnExactSamePacketRow.holds Try.pinned (OpenSpec.ofChange fnExactSamePacketSpec)

/-- ITS FALSE NEIGHBOUR: 'it returns false'. Refute it at one input. -/
def fnExactSamePacketWrong : ChangeSpec := { name := "fnExactSamePacket", fn := fun _ => fun
  | [d1, d2] => { results := [.lit (.bool false)], args := [d1, d2] }
  | _ => none }
def FnExactSamePacketWrongFalsely : Prop := fnExactSamePacketRow.holds Try.pinned (OpenSpec.ofChange fnExactSamePacketWrong)

/-- 'laws.FnExactCountUp': WHATEVER THE INPUT: true; the input reads as it did. -/
def fnExactCountUpSpec : ChangeSpec := { name := "fnExactCountUp", fn := fun _ => fun
  | [d] => { results := [.lit (.bool true)], args := [d] }
  | _ => none }
def fnExactCountUpRow : OpenClaim := { program := "ytdgoeomelnlekaa", sum := "3a04582338321d041106f00914b9161778a9e33bd9b73d7596a773c4876ca80b", func := "loop.example/g00846/laws.FnExactCountUp", spec := "fnExactCountUp", apart := false }
def FnExactCountUpSaid : Prop := fnExactCountUpRow.holds Try.pinned (OpenSpec.ofChange fnExactCountUpSpec)

/-- ITS FALSE NEIGHBOUR: 'it returns false'. Refute it at one input. -/
def fnExactCountUpWrong : ChangeSpec := { name := "fnExactCountUp", fn := fun _ => fun
  | [d] => { results := [.lit (.bool false)], args := [d] }
  | _ => none }
def FnExactCountUpWrongFalsely : Prop := fnExactCountUpRow.holds Try.pinned (OpenSpec.ofChange fnExactCountUpWrong)

/-- 'laws.FnExactNewPacket': WHATEVER THE INPUT: true; the input reads as it did. -/
def fnExactNewPacketSpec : ChangeSpec := { name := "fnExactNewPacket", fn := fun _ => fun
  | [d] => { results := [.lit (.bool true)], args := [d] }
  | _ => none }
def fnExactNewPacketRow : OpenClaim := { program := "ytdgoeomelnlekaa", sum := "3a04582338321d041106f00914b9161778a9e33bd9b73d7596a773c4876ca80b", func := "loop.example/g00846/laws.FnExactNewPacket", spec := "fnExactNewPacket", apart := false }
def FnExactNewPacketSaid : Prop := fnExactNewPacketRow.holds Try.pinned (OpenSpec.ofChange fnExactNewPacketSpec)

/-- ITS FALSE NEIGHBOUR: 'it returns false'. Refute it at one input. -/
def fnExactNewPacketWrong : ChangeSpec := { name := "fnExactNewPacket", fn := fun _ => fun
  | [d] => { results := [.lit (.bool false)], args := [d] }
  | _ => none }
def FnExactNewPacketWrongFalsely : Prop := fnExactNewPacketRow.holds Try.pinned (OpenSpec.ofChange fnExactNewPacketWrong)

/-- 'laws.FnRiffles': WHATEVER THE INPUT: true; the input reads as it did. -/
def fnRifflesSpec : ChangeSpec := { name := "fnRiffles", fn := fun _ => fun
  | [d] => { results := [.lit (.bool true)], args := [d] }
  | _ => none }
def fnRifflesRow : OpenClaim := { program := "ytdgoeomelnlekaa", sum := "3a04582338321d041106f00914b9161778a9e33bd9b73d7596a773c4876ca80b", func := "loop.example/g00846/laws.FnRiffles", spec := "fnRiffles", unfollowed := true, recurses := true, apart := false }
def FnRifflesSaid : Prop := fnRifflesRow.holds Try.pinned (OpenSpec.ofChange fnRifflesSpec)

/-- ITS FALSE NEIGHBOUR: 'it returns false'. Refute it at one input. -/
def fnRifflesWrong : ChangeSpec := { name := "fnRiffles", fn := fun _ => fun
  | [d] => { results := [.lit (.bool false)], args := [d] }
  | _ => none }
def FnRifflesWrongFalsely : Prop := fnRifflesRow.holds Try.pinned (OpenSpec.ofChange fnRifflesWrong)

/-- 'laws.FnExactIdentityPerm': WHATEVER THE INPUT: true; the input reads as it did. -/
def fnExactIdentityPermSpec : ChangeSpec := { name := "fnExactIdentityPerm", fn := fun _ => fun
  | [d] => { results := [.lit (.bool true)], args := [d] }
  | _ => none }
def fnExactIdentityPermRow : OpenClaim := { program := "ytdgoeomelnlekaa", sum := "3a04582338321d041106f00914b9161778a9e33bd9b73d7596a773c4876ca80b", func := "loop.example/g00846/laws.FnExactIdentityPerm", spec := "fnExactIdentityPerm", apart := false }
def FnExactIdentityPermSaid : Prop := fnExactIdentityPermRow.holds Try.pinned (OpenSpec.ofChange fnExactIdentityPermSpec)

/-- ITS FALSE NEIGHBOUR: 'it returns false'. Refute it at one input. -/
def fnExactIdentityPermWrong : ChangeSpec := { name := "fnExactIdentityPerm", fn := fun _ => fun
  | [d] => { results := [.lit (.bool false)], args := [d] }
  | _ => none }
def FnExactIdentityPermWrongFalsely : Prop := fnExactIdentityPermRow.holds Try.pinned (OpenSpec.ofChange fnExactIdentityPermWrong)

/-- 'laws.FnExactPermOk': WHATEVER THE INPUT: true; the input reads as it did. -/
def fnExactPermOkSpec : ChangeSpec := { name := "fnExactPermOk", fn := fun _ => fun
  | [d] => { results := [.lit (.bool true)], args := [d] }
  | _ => none }
def fnExactPermOkRow : OpenClaim := { program := "ytdgoeomelnlekaa", sum := "3a04582338321d041106f00914b9161778a9e33bd9b73d7596a773c4876ca80b", func := "loop.example/g00846/laws.FnExactPermOk", spec := "fnExactPermOk", apart := false }
def FnExactPermOkSaid : Prop := fnExactPermOkRow.holds Try.pinned (OpenSpec.ofChange fnExactPermOkSpec)

/-- ITS FALSE NEIGHBOUR: 'it returns false'. Refute it at one input. -/
def fnExactPermOkWrong : ChangeSpec := { name := "fnExactPermOk", fn := fun _ => fun
  | [d] => { results := [.lit (.bool false)], args := [d] }
  | _ => none }
def FnExactPermOkWrongFalsely : Prop := fnExactPermOkRow.holds Try.pinned (OpenSpec.ofChange fnExactPermOkWrong)

/-- 'laws.FnExactPositionOf': WHATEVER THE INPUT: true; the input reads as it did. -/
def fnExactPositionOfSpec : ChangeSpec := { name := "fnExactPositionOf", fn := fun _ => fun
  | [d1, d2] => { results := [.lit (.bool true)], args := [d1, d2] }
  | _ => none }
def fnExactPositionOfRow : OpenClaim := { program := "ytdgoeomelnlekaa", sum := "3a04582338321d041106f00914b9161778a9e33bd9b73d7596a773c4876ca80b", func := "loop.example/g00846/laws.FnExactPositionOf", spec := "fnExactPositionOf", unfollowed := true, recurses := true, apart := false }
def FnExactPositionOfSaid : Prop := fnExactPositionOfRow.holds Try.pinned (OpenSpec.ofChange fnExactPositionOfSpec)

/-- ITS FALSE NEIGHBOUR: 'it returns false'. Refute it at one input. -/
def fnExactPositionOfWrong : ChangeSpec := { name := "fnExactPositionOf", fn := fun _ => fun
  | [d1, d2] => { results := [.lit (.bool false)], args := [d1, d2] }
  | _ => none }
def FnExactPositionOfWrongFalsely : Prop := fnExactPositionOfRow.holds Try.pinned (OpenSpec.ofChange fnExactPositionOfWrong)

/-- 'laws.FnExactAlternateOk': WHATEVER THE INPUT: true; the input reads as it did. -/
def fnExactAlternateOkSpec : ChangeSpec := { name := "fnExactAlternateOk", fn := fun _ => fun
  | [d] => { results := [.lit (.bool true)], args := [d] }
  | _ => none }
def fnExactAlternateOkRow : OpenClaim := { program := "ytdgoeomelnlekaa", sum := "3a04582338321d041106f00914b9161778a9e33bd9b73d7596a773c4876ca80b", func := "loop.example/g00846/laws.FnExactAlternateOk", spec := "fnExactAlternateOk", unfollowed := true, recurses := true, apart := false }
def FnExactAlternateOkSaid : Prop := fnExactAlternateOkRow.holds Try.pinned (OpenSpec.ofChange fnExactAlternateOkSpec)

/-- ITS FALSE NEIGHBOUR: 'it returns false'. Refute it at one input. -/
def fnExactAlternateOkWrong : ChangeSpec := { name := "fnExactAlternateOk", fn := fun _ => fun
  | [d] => { results := [.lit (.bool false)], args := [d] }
  | _ => none }
def FnExactAlternateOkWrongFalsely : Prop := fnExactAlternateOkRow.holds Try.pinned (OpenSpec.ofChange fnExactAlternateOkWrong)

/-- 'laws.FnExactPairsDiffer': WHATEVER THE INPUT: true; the input reads as it did. -/
def fnExactPairsDifferSpec : ChangeSpec := { name := "fnExactPairsDiffer", fn := fun _ => fun
  | [d] => { results := [.lit (.bool true)], args := [d] }
  | _ => none }
def fnExactPairsDifferRow : OpenClaim := { program := "ytdgoeomelnlekaa", sum := "3a04582338321d041106f00914b9161778a9e33bd9b73d7596a773c4876ca80b", func := "loop.example/g00846/laws.FnExactPairsDiffer", spec := "fnExactPairsDiffer", unfollowed := true, recurses := true, apart := false }
def FnExactPairsDifferSaid : Prop := fnExactPairsDifferRow.holds Try.pinned (OpenSpec.ofChange fnExactPairsDifferSpec)

/-- ITS FALSE NEIGHBOUR: 'it returns false'. Refute it at one input. -/
def fnExactPairsDifferWrong : ChangeSpec := { name := "fnExactPairsDiffer", fn := fun _ => fun
  | [d] => { results := [.lit (.bool false)], args := [d] }
  | _ => none }
def FnExactPairsDifferWrongFalsely : Prop := fnExactPairsDifferRow.holds Try.pinned (OpenSpec.ofChange fnExactPairsDifferWrong)

/-- 'laws.FnExactSplitAny': WHATEVER THE INPUT: true; the input reads as it did. -/
def fnExactSplitAnySpec : ChangeSpec := { name := "fnExactSplitAny", fn := fun _ => fun
  | [d1, d2] => { results := [.lit (.bool true)], args := [d1, d2] }
  | _ => none }
def fnExactSplitAnyRow : OpenClaim := { program := "ytdgoeomelnlekaa", sum := "3a04582338321d041106f00914b9161778a9e33bd9b73d7596a773c4876ca80b", func := "loop.example/g00846/laws.FnExactSplitAny", spec := "fnExactSplitAny", inPlace := ["internal/bytealg.IndexByteString"], apart := false }
def FnExactSplitAnySaid : Prop := fnExactSplitAnyRow.holds Try.pinned (OpenSpec.ofChange fnExactSplitAnySpec)

/-- ITS FALSE NEIGHBOUR: 'it returns false'. Refute it at one input. -/
def fnExactSplitAnyWrong : ChangeSpec := { name := "fnExactSplitAny", fn := fun _ => fun
  | [d1, d2] => { results := [.lit (.bool false)], args := [d1, d2] }
  | _ => none }
def FnExactSplitAnyWrongFalsely : Prop := fnExactSplitAnyRow.holds Try.pinned (OpenSpec.ofChange fnExactSplitAnyWrong)

/-- 'laws.FnExactPacketOk': WHATEVER THE INPUT: true; the input reads as it did. -/
def fnExactPacketOkSpec : ChangeSpec := { name := "fnExactPacketOk", fn := fun _ => fun
  | [d] => { results := [.lit (.bool true)], args := [d] }
  | _ => none }
def fnExactPacketOkRow : OpenClaim := { program := "ytdgoeomelnlekaa", sum := "3a04582338321d041106f00914b9161778a9e33bd9b73d7596a773c4876ca80b", func := "loop.example/g00846/laws.FnExactPacketOk", spec := "fnExactPacketOk", apart := false }
def FnExactPacketOkSaid : Prop := fnExactPacketOkRow.holds Try.pinned (OpenSpec.ofChange fnExactPacketOkSpec)

/-- ITS FALSE NEIGHBOUR: 'it returns false'. Refute it at one input. -/
def fnExactPacketOkWrong : ChangeSpec := { name := "fnExactPacketOk", fn := fun _ => fun
  | [d] => { results := [.lit (.bool false)], args := [d] }
  | _ => none }
def FnExactPacketOkWrongFalsely : Prop := fnExactPacketOkRow.holds Try.pinned (OpenSpec.ofChange fnExactPacketOkWrong)

/-- 'laws.FnExactSplitLines': WHATEVER THE INPUT: true; the input reads as it did. -/
def fnExactSplitLinesSpec : ChangeSpec := { name := "fnExactSplitLines", fn := fun _ => fun
  | [d] => { results := [.lit (.bool true)], args := [d] }
  | _ => none }
def fnExactSplitLinesRow : OpenClaim := { program := "ytdgoeomelnlekaa", sum := "3a04582338321d041106f00914b9161778a9e33bd9b73d7596a773c4876ca80b", func := "loop.example/g00846/laws.FnExactSplitLines", spec := "fnExactSplitLines", inPlace := ["internal/bytealg.IndexByteString"], apart := false }
def FnExactSplitLinesSaid : Prop := fnExactSplitLinesRow.holds Try.pinned (OpenSpec.ofChange fnExactSplitLinesSpec)

/-- ITS FALSE NEIGHBOUR: 'it returns false'. Refute it at one input. -/
def fnExactSplitLinesWrong : ChangeSpec := { name := "fnExactSplitLines", fn := fun _ => fun
  | [d] => { results := [.lit (.bool false)], args := [d] }
  | _ => none }
def FnExactSplitLinesWrongFalsely : Prop := fnExactSplitLinesRow.holds Try.pinned (OpenSpec.ofChange fnExactSplitLinesWrong)

/-- 'laws.FnExactHasBlocks': WHATEVER THE INPUT: true; the input reads as it did. -/
def fnExactHasBlocksSpec : ChangeSpec := { name := "fnExactHasBlocks", fn := fun _ => fun
  | [d1, d2] => { results := [.lit (.bool true)], args := [d1, d2] }
  | _ => none }
def fnExactHasBlocksRow : OpenClaim := { program := "ytdgoeomelnlekaa", sum := "3a04582338321d041106f00914b9161778a9e33bd9b73d7596a773c4876ca80b", func := "loop.example/g00846/laws.FnExactHasBlocks", spec := "fnExactHasBlocks", apart := false }
def FnExactHasBlocksSaid : Prop := fnExactHasBlocksRow.holds Try.pinned (OpenSpec.ofChange fnExactHasBlocksSpec)

/-- ITS FALSE NEIGHBOUR: 'it returns false'. Refute it at one input. -/
def fnExactHasBlocksWrong : ChangeSpec := { name := "fnExactHasBlocks", fn := fun _ => fun
  | [d1, d2] => { results := [.lit (.bool false)], args := [d1, d2] }
  | _ => none }
def FnExactHasBlocksWrongFalsely : Prop := fnExactHasBlocksRow.holds Try.pinned (OpenSpec.ofChange fnExactHasBlocksWrong)

/- THE SECOND FORM. 'bulk': how many values and letters a reading holds, each counted each time it is reached (what is shared counts as often as it is met; a slice's spare places count too). A statement '..UptoSaid' is the law's where the arguments, and the package variables that the reading takes, are together of bulk at most 1048576: NARROWER than '..Said'. Prove '..Said' where nothing that the law and all that it calls make is longer than what came in: it says more and counts as full. Else prove '..UptoSaid'. A law counts once. -/
mutual
def uptoBulk {H : Type} : DataW H → Nat
  | .lit (.string bytes) => bytes.length + 1
  | .lit _ => 1
  | .nil => 1
  | .ptr d => uptoBulk d + 1
  | .slice elems spare => uptoBulkAll elems + uptoBulkAll spare + 1
  | .agg parts => uptoBulkAll parts + 1
  | .iface _ d => uptoBulk d + 1
  | .map entries => uptoBulkEntries entries + 1
  | .held _ => 1
def uptoBulkAll {H : Type} : List (DataW H) → Nat
  | [] => 0
  | d :: r => uptoBulk d + uptoBulkAll r
def uptoBulkEntries {H : Type} : List (Lit × DataW H) → Nat
  | [] => 0
  | x :: r => uptoBulkEntry x + uptoBulkEntries r
def uptoBulkEntry {H : Type} : Lit × DataW H → Nat
  | (.string bytes, d) => bytes.length + uptoBulk d + 1
  | (_, d) => uptoBulk d + 1
 end
def uptoSmall : (H : Type) → List (DataW H) → Bool := fun _ ds => decide (uptoBulkAll ds ≤ 1048576)
def OpenSpec.upto (s : _root_.Go.ChangeSpec) : _root_.Go.OpenSpec := { _root_.Go.OpenSpec.ofChange s with cond := some uptoSmall }

/-- 'laws.FnExactSamePacket', WHERE WHAT IT READS IS OF BULK AT MOST 1048576: true; the input reads as it did. -/
def fnExactSamePacketUptoRow : OpenClaim := { program := "ytdgoeomelnlekaa", sum := "3a04582338321d041106f00914b9161778a9e33bd9b73d7596a773c4876ca80b", func := "loop.example/g00846/laws.FnExactSamePacket", spec := "fnExactSamePacket", apart := false, narrowed := true }
def FnExactSamePacketUptoSaid : Prop := fnExactSamePacketUptoRow.holds Try.pinned (OpenSpec.upto fnExactSamePacketSpec)

/-- 'laws.FnExactCountUp', WHERE WHAT IT READS IS OF BULK AT MOST 1048576: true; the input reads as it did. -/
def fnExactCountUpUptoRow : OpenClaim := { program := "ytdgoeomelnlekaa", sum := "3a04582338321d041106f00914b9161778a9e33bd9b73d7596a773c4876ca80b", func := "loop.example/g00846/laws.FnExactCountUp", spec := "fnExactCountUp", apart := false, narrowed := true }
def FnExactCountUpUptoSaid : Prop := fnExactCountUpUptoRow.holds Try.pinned (OpenSpec.upto fnExactCountUpSpec)

/-- 'laws.FnExactNewPacket', WHERE WHAT IT READS IS OF BULK AT MOST 1048576: true; the input reads as it did. -/
def fnExactNewPacketUptoRow : OpenClaim := { program := "ytdgoeomelnlekaa", sum := "3a04582338321d041106f00914b9161778a9e33bd9b73d7596a773c4876ca80b", func := "loop.example/g00846/laws.FnExactNewPacket", spec := "fnExactNewPacket", apart := false, narrowed := true }
def FnExactNewPacketUptoSaid : Prop := fnExactNewPacketUptoRow.holds Try.pinned (OpenSpec.upto fnExactNewPacketSpec)

/-- 'laws.FnRiffles', WHERE WHAT IT READS IS OF BULK AT MOST 1048576: true; the input reads as it did. -/
def fnRifflesUptoRow : OpenClaim := { program := "ytdgoeomelnlekaa", sum := "3a04582338321d041106f00914b9161778a9e33bd9b73d7596a773c4876ca80b", func := "loop.example/g00846/laws.FnRiffles", spec := "fnRiffles", unfollowed := true, recurses := true, apart := false, narrowed := true }
def FnRifflesUptoSaid : Prop := fnRifflesUptoRow.holds Try.pinned (OpenSpec.upto fnRifflesSpec)

/-- 'laws.FnExactIdentityPerm', WHERE WHAT IT READS IS OF BULK AT MOST 1048576: true; the input reads as it did. -/
def fnExactIdentityPermUptoRow : OpenClaim := { program := "ytdgoeomelnlekaa", sum := "3a04582338321d041106f00914b9161778a9e33bd9b73d7596a773c4876ca80b", func := "loop.example/g00846/laws.FnExactIdentityPerm", spec := "fnExactIdentityPerm", apart := false, narrowed := true }
def FnExactIdentityPermUptoSaid : Prop := fnExactIdentityPermUptoRow.holds Try.pinned (OpenSpec.upto fnExactIdentityPermSpec)

/-- 'laws.FnExactPermOk', WHERE WHAT IT READS IS OF BULK AT MOST 1048576: true; the input reads as it did. -/
def fnExactPermOkUptoRow : OpenClaim := { program := "ytdgoeomelnlekaa", sum := "3a04582338321d041106f00914b9161778a9e33bd9b73d7596a773c4876ca80b", func := "loop.example/g00846/laws.FnExactPermOk", spec := "fnExactPermOk", apart := false, narrowed := true }
def FnExactPermOkUptoSaid : Prop := fnExactPermOkUptoRow.holds Try.pinned (OpenSpec.upto fnExactPermOkSpec)

/-- 'laws.FnExactPositionOf', WHERE WHAT IT READS IS OF BULK AT MOST 1048576: true; the input reads as it did. -/
def fnExactPositionOfUptoRow : OpenClaim := { program := "ytdgoeomelnlekaa", sum := "3a04582338321d041106f00914b9161778a9e33bd9b73d7596a773c4876ca80b", func := "loop.example/g00846/laws.FnExactPositionOf", spec := "fnExactPositionOf", unfollowed := true, recurses := true, apart := false, narrowed := true }
def FnExactPositionOfUptoSaid : Prop := fnExactPositionOfUptoRow.holds Try.pinned (OpenSpec.upto fnExactPositionOfSpec)

/-- 'laws.FnExactAlternateOk', WHERE WHAT IT READS IS OF BULK AT MOST 1048576: true; the input reads as it did. -/
def fnExactAlternateOkUptoRow : OpenClaim := { program := "ytdgoeomelnlekaa", sum := "3a04582338321d041106f00914b9161778a9e33bd9b73d7596a773c4876ca80b", func := "loop.example/g00846/laws.FnExactAlternateOk", spec := "fnExactAlternateOk", unfollowed := true, recurses := true, apart := false, narrowed := true }
def FnExactAlternateOkUptoSaid : Prop := fnExactAlternateOkUptoRow.holds Try.pinned (OpenSpec.upto fnExactAlternateOkSpec)

/-- 'laws.FnExactPairsDiffer', WHERE WHAT IT READS IS OF BULK AT MOST 1048576: true; the input reads as it did. -/
def fnExactPairsDifferUptoRow : OpenClaim := { program := "ytdgoeomelnlekaa", sum := "3a04582338321d041106f00914b9161778a9e33bd9b73d7596a773c4876ca80b", func := "loop.example/g00846/laws.FnExactPairsDiffer", spec := "fnExactPairsDiffer", unfollowed := true, recurses := true, apart := false, narrowed := true }
def FnExactPairsDifferUptoSaid : Prop := fnExactPairsDifferUptoRow.holds Try.pinned (OpenSpec.upto fnExactPairsDifferSpec)

/-- 'laws.FnExactSplitAny', WHERE WHAT IT READS IS OF BULK AT MOST 1048576: true; the input reads as it did. -/
def fnExactSplitAnyUptoRow : OpenClaim := { program := "ytdgoeomelnlekaa", sum := "3a04582338321d041106f00914b9161778a9e33bd9b73d7596a773c4876ca80b", func := "loop.example/g00846/laws.FnExactSplitAny", spec := "fnExactSplitAny", inPlace := ["internal/bytealg.IndexByteString"], apart := false, narrowed := true }
def FnExactSplitAnyUptoSaid : Prop := fnExactSplitAnyUptoRow.holds Try.pinned (OpenSpec.upto fnExactSplitAnySpec)

/-- 'laws.FnExactPacketOk', WHERE WHAT IT READS IS OF BULK AT MOST 1048576: true; the input reads as it did. -/
def fnExactPacketOkUptoRow : OpenClaim := { program := "ytdgoeomelnlekaa", sum := "3a04582338321d041106f00914b9161778a9e33bd9b73d7596a773c4876ca80b", func := "loop.example/g00846/laws.FnExactPacketOk", spec := "fnExactPacketOk", apart := false, narrowed := true }
def FnExactPacketOkUptoSaid : Prop := fnExactPacketOkUptoRow.holds Try.pinned (OpenSpec.upto fnExactPacketOkSpec)

/-- 'laws.FnExactSplitLines', WHERE WHAT IT READS IS OF BULK AT MOST 1048576: true; the input reads as it did. -/
def fnExactSplitLinesUptoRow : OpenClaim := { program := "ytdgoeomelnlekaa", sum := "3a04582338321d041106f00914b9161778a9e33bd9b73d7596a773c4876ca80b", func := "loop.example/g00846/laws.FnExactSplitLines", spec := "fnExactSplitLines", inPlace := ["internal/bytealg.IndexByteString"], apart := false, narrowed := true }
def FnExactSplitLinesUptoSaid : Prop := fnExactSplitLinesUptoRow.holds Try.pinned (OpenSpec.upto fnExactSplitLinesSpec)

/-- 'laws.FnExactHasBlocks', WHERE WHAT IT READS IS OF BULK AT MOST 1048576: true; the input reads as it did. -/
def fnExactHasBlocksUptoRow : OpenClaim := { program := "ytdgoeomelnlekaa", sum := "3a04582338321d041106f00914b9161778a9e33bd9b73d7596a773c4876ca80b", func := "loop.example/g00846/laws.FnExactHasBlocks", spec := "fnExactHasBlocks", apart := false, narrowed := true }
def FnExactHasBlocksUptoSaid : Prop := fnExactHasBlocksUptoRow.holds Try.pinned (OpenSpec.upto fnExactHasBlocksSpec)

end Rows
end Go.Proofs.Ytdgoeomelnlekaa
