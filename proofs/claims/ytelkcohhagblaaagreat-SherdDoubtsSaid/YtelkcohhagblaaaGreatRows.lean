/-
  No cell of these rows narrows 'for every input' (looked for: loops, veiled, ifaces, maps, wideKeys, modest, calm, conditions, laid).
  DERIVED. THE GIVEN ROWS OF THIS SEAT. 15 by the template 'for every input the law returns true; each argument reads behind the call as it read before'; 0 by the template 'total and deterministic' (their statements: YtelkcohhagblaaaGreatTotals.lean).
  GIVEN WITH THE SEED: the statements are not yours to turn. If you find one false, say at which input.
  Laid BY PROGRAM, IN A SANDBOX (cutbox-rows.mjs): the forced cells as the released guide's own fill.sh prints them over the translation ee336b42c095cc26… (all of the seat's roots in one cut). By AI agents, Wed Nov 11 2026. No macro, syntax, notation, axiom, sorry.
-/
import Derived.Test.YtelkcohhagblaaaGreatChecked
import GoSem.Claim
import GoSem.ClaimJoined
import GoSem.ClaimMapViews
import Derived.JoinedTies
import Derived.KernelRfl
namespace Go.Proofs.YtelkcohhagblaaaGreat
/- THE CELL 'sum', in the pinned program and in every row, IS THE sha256 OF THE DUMP (.gsa) THAT YtelkcohhagblaaaGreatProg.lean LOADS. Nothing in Lean hashes anything: it is a label: what it is worth is what the hold of that sum in a sandbox is worth. -/
noncomputable def Tryz.pinned : Pinned := { name := "ytelkcohhagblaaagreat", sum := "ee336b42c095cc26b7495759336d3ed88b1302d45ed2423ca81a01ace3355689", checked := Tryz.checked }
namespace Rows
def none {H : Type} : Left H := { results := [], args := [] }

/-- 'conjoinlaw02.SherdChecks': WHATEVER THE INPUT: true; the input reads as it did. -/
def sherdChecksSpec : ChangeSpec := { name := "sherdChecks", fn := fun _ => fun
  | [d1, d2] => { results := [.lit (.bool true)], args := [d1, d2] }
  | _ => none }
def sherdChecksRow : OpenClaim := { program := "ytelkcohhagblaaagreat", sum := "ee336b42c095cc26b7495759336d3ed88b1302d45ed2423ca81a01ace3355689", func := "conjoin/conjoinlaw02.SherdChecks", spec := "sherdChecks", inPlace := ["internal/bytealg.IndexByteString", "internal/bytealg.IndexString"], unfollowed := true, recurses := true, named := ["internal/bytealg.MaxLen"], apart := false }
def SherdChecksSaid : Prop := sherdChecksRow.holds Tryz.pinned (OpenSpec.ofChange sherdChecksSpec)

/-- ITS FALSE NEIGHBOUR: 'it returns false'. Refute it at one input. -/
def sherdChecksWrong : ChangeSpec := { name := "sherdChecks", fn := fun _ => fun
  | [d1, d2] => { results := [.lit (.bool false)], args := [d1, d2] }
  | _ => none }
def SherdChecksWrongFalsely : Prop := sherdChecksRow.holds Tryz.pinned (OpenSpec.ofChange sherdChecksWrong)

/-- 'conjoinlaw02.SherdMost': WHATEVER THE INPUT: true; the input reads as it did. -/
def sherdMostSpec : ChangeSpec := { name := "sherdMost", fn := fun _ => fun
  | [d] => { results := [.lit (.bool true)], args := [d] }
  | _ => none }
def sherdMostRow : OpenClaim := { program := "ytelkcohhagblaaagreat", sum := "ee336b42c095cc26b7495759336d3ed88b1302d45ed2423ca81a01ace3355689", func := "conjoin/conjoinlaw02.SherdMost", spec := "sherdMost", inPlace := ["internal/bytealg.IndexByteString", "internal/bytealg.IndexString"], unfollowed := true, recurses := true, named := ["internal/bytealg.MaxLen"], apart := false }
def SherdMostSaid : Prop := sherdMostRow.holds Tryz.pinned (OpenSpec.ofChange sherdMostSpec)

/-- ITS FALSE NEIGHBOUR: 'it returns false'. Refute it at one input. -/
def sherdMostWrong : ChangeSpec := { name := "sherdMost", fn := fun _ => fun
  | [d] => { results := [.lit (.bool false)], args := [d] }
  | _ => none }
def SherdMostWrongFalsely : Prop := sherdMostRow.holds Tryz.pinned (OpenSpec.ofChange sherdMostWrong)

/-- 'conjoinlaw02.SherdWays': WHATEVER THE INPUT: true; the input reads as it did. -/
def sherdWaysSpec : ChangeSpec := { name := "sherdWays", fn := fun _ => fun
  | [d1, d2, d3, d4, d5] => { results := [.lit (.bool true)], args := [d1, d2, d3, d4, d5] }
  | _ => none }
def sherdWaysRow : OpenClaim := { program := "ytelkcohhagblaaagreat", sum := "ee336b42c095cc26b7495759336d3ed88b1302d45ed2423ca81a01ace3355689", func := "conjoin/conjoinlaw02.SherdWays", spec := "sherdWays", inPlace := ["internal/bytealg.IndexByteString", "internal/bytealg.IndexString"], unfollowed := true, recurses := true, named := ["internal/bytealg.MaxLen"], apart := false }
def SherdWaysSaid : Prop := sherdWaysRow.holds Tryz.pinned (OpenSpec.ofChange sherdWaysSpec)

/-- ITS FALSE NEIGHBOUR: 'it returns false'. Refute it at one input. -/
def sherdWaysWrong : ChangeSpec := { name := "sherdWays", fn := fun _ => fun
  | [d1, d2, d3, d4, d5] => { results := [.lit (.bool false)], args := [d1, d2, d3, d4, d5] }
  | _ => none }
def SherdWaysWrongFalsely : Prop := sherdWaysRow.holds Tryz.pinned (OpenSpec.ofChange sherdWaysWrong)

/-- 'conjoinlaw02.SherdChains': WHATEVER THE INPUT: true; the input reads as it did. -/
def sherdChainsSpec : ChangeSpec := { name := "sherdChains", fn := fun _ => fun
  | [d1, d2, d3, d4, d5, d6] => { results := [.lit (.bool true)], args := [d1, d2, d3, d4, d5, d6] }
  | _ => none }
def sherdChainsRow : OpenClaim := { program := "ytelkcohhagblaaagreat", sum := "ee336b42c095cc26b7495759336d3ed88b1302d45ed2423ca81a01ace3355689", func := "conjoin/conjoinlaw02.SherdChains", spec := "sherdChains", inPlace := ["internal/bytealg.IndexByteString", "internal/bytealg.IndexString"], unfollowed := true, recurses := true, named := ["internal/bytealg.MaxLen"], apart := false }
def SherdChainsSaid : Prop := sherdChainsRow.holds Tryz.pinned (OpenSpec.ofChange sherdChainsSpec)

/-- ITS FALSE NEIGHBOUR: 'it returns false'. Refute it at one input. -/
def sherdChainsWrong : ChangeSpec := { name := "sherdChains", fn := fun _ => fun
  | [d1, d2, d3, d4, d5, d6] => { results := [.lit (.bool false)], args := [d1, d2, d3, d4, d5, d6] }
  | _ => none }
def SherdChainsWrongFalsely : Prop := sherdChainsRow.holds Tryz.pinned (OpenSpec.ofChange sherdChainsWrong)

/-- 'conjoinlaw02.SherdOutlines': WHATEVER THE INPUT: true; the input reads as it did. -/
def sherdOutlinesSpec : ChangeSpec := { name := "sherdOutlines", fn := fun _ => fun
  | [d1, d2, d3, d4] => { results := [.lit (.bool true)], args := [d1, d2, d3, d4] }
  | _ => none }
def sherdOutlinesRow : OpenClaim := { program := "ytelkcohhagblaaagreat", sum := "ee336b42c095cc26b7495759336d3ed88b1302d45ed2423ca81a01ace3355689", func := "conjoin/conjoinlaw02.SherdOutlines", spec := "sherdOutlines", inPlace := ["internal/bytealg.IndexByteString", "internal/bytealg.IndexString"], unfollowed := true, recurses := true, named := ["internal/bytealg.MaxLen"], apart := false }
def SherdOutlinesSaid : Prop := sherdOutlinesRow.holds Tryz.pinned (OpenSpec.ofChange sherdOutlinesSpec)

/-- ITS FALSE NEIGHBOUR: 'it returns false'. Refute it at one input. -/
def sherdOutlinesWrong : ChangeSpec := { name := "sherdOutlines", fn := fun _ => fun
  | [d1, d2, d3, d4] => { results := [.lit (.bool false)], args := [d1, d2, d3, d4] }
  | _ => none }
def SherdOutlinesWrongFalsely : Prop := sherdOutlinesRow.holds Tryz.pinned (OpenSpec.ofChange sherdOutlinesWrong)

/-- 'conjoinlaw02.SherdRests': WHATEVER THE INPUT: true; the input reads as it did. -/
def sherdRestsSpec : ChangeSpec := { name := "sherdRests", fn := fun _ => fun
  | [d1, d2, d3, d4, d5, d6] => { results := [.lit (.bool true)], args := [d1, d2, d3, d4, d5, d6] }
  | _ => none }
def sherdRestsRow : OpenClaim := { program := "ytelkcohhagblaaagreat", sum := "ee336b42c095cc26b7495759336d3ed88b1302d45ed2423ca81a01ace3355689", func := "conjoin/conjoinlaw02.SherdRests", spec := "sherdRests", inPlace := ["internal/bytealg.IndexByteString", "internal/bytealg.IndexString"], unfollowed := true, recurses := true, named := ["internal/bytealg.MaxLen"], apart := false }
def SherdRestsSaid : Prop := sherdRestsRow.holds Tryz.pinned (OpenSpec.ofChange sherdRestsSpec)

/-- ITS FALSE NEIGHBOUR: 'it returns false'. Refute it at one input. -/
def sherdRestsWrong : ChangeSpec := { name := "sherdRests", fn := fun _ => fun
  | [d1, d2, d3, d4, d5, d6] => { results := [.lit (.bool false)], args := [d1, d2, d3, d4, d5, d6] }
  | _ => none }
def SherdRestsWrongFalsely : Prop := sherdRestsRow.holds Tryz.pinned (OpenSpec.ofChange sherdRestsWrong)

/-- 'conjoinlaw02.SherdMemory': WHATEVER THE INPUT: true; the input reads as it did. -/
def sherdMemorySpec : ChangeSpec := { name := "sherdMemory", fn := fun _ => fun
  | [d1, d2, d3, d4] => { results := [.lit (.bool true)], args := [d1, d2, d3, d4] }
  | _ => none }
def sherdMemoryRow : OpenClaim := { program := "ytelkcohhagblaaagreat", sum := "ee336b42c095cc26b7495759336d3ed88b1302d45ed2423ca81a01ace3355689", func := "conjoin/conjoinlaw02.SherdMemory", spec := "sherdMemory", inPlace := ["internal/bytealg.IndexByteString", "internal/bytealg.IndexString"], unfollowed := true, recurses := true, named := ["internal/bytealg.MaxLen"], apart := false }
def SherdMemorySaid : Prop := sherdMemoryRow.holds Tryz.pinned (OpenSpec.ofChange sherdMemorySpec)

/-- ITS FALSE NEIGHBOUR: 'it returns false'. Refute it at one input. -/
def sherdMemoryWrong : ChangeSpec := { name := "sherdMemory", fn := fun _ => fun
  | [d1, d2, d3, d4] => { results := [.lit (.bool false)], args := [d1, d2, d3, d4] }
  | _ => none }
def SherdMemoryWrongFalsely : Prop := sherdMemoryRow.holds Tryz.pinned (OpenSpec.ofChange sherdMemoryWrong)

/-- 'conjoinlaw02.SherdLineage': WHATEVER THE INPUT: true; the input reads as it did. -/
def sherdLineageSpec : ChangeSpec := { name := "sherdLineage", fn := fun _ => fun
  | [d1, d2, d3, d4, d5, d6] => { results := [.lit (.bool true)], args := [d1, d2, d3, d4, d5, d6] }
  | _ => none }
def sherdLineageRow : OpenClaim := { program := "ytelkcohhagblaaagreat", sum := "ee336b42c095cc26b7495759336d3ed88b1302d45ed2423ca81a01ace3355689", func := "conjoin/conjoinlaw02.SherdLineage", spec := "sherdLineage", inPlace := ["internal/bytealg.IndexByteString", "internal/bytealg.IndexString"], unfollowed := true, recurses := true, named := ["internal/bytealg.MaxLen"], apart := false }
def SherdLineageSaid : Prop := sherdLineageRow.holds Tryz.pinned (OpenSpec.ofChange sherdLineageSpec)

/-- ITS FALSE NEIGHBOUR: 'it returns false'. Refute it at one input. -/
def sherdLineageWrong : ChangeSpec := { name := "sherdLineage", fn := fun _ => fun
  | [d1, d2, d3, d4, d5, d6] => { results := [.lit (.bool false)], args := [d1, d2, d3, d4, d5, d6] }
  | _ => none }
def SherdLineageWrongFalsely : Prop := sherdLineageRow.holds Tryz.pinned (OpenSpec.ofChange sherdLineageWrong)

/-- 'conjoinlaw02.SherdSharp': WHATEVER THE INPUT: true; the input reads as it did. -/
def sherdSharpSpec : ChangeSpec := { name := "sherdSharp", fn := fun _ => fun
  | [d1, d2, d3, d4, d5, d6] => { results := [.lit (.bool true)], args := [d1, d2, d3, d4, d5, d6] }
  | _ => none }
def sherdSharpRow : OpenClaim := { program := "ytelkcohhagblaaagreat", sum := "ee336b42c095cc26b7495759336d3ed88b1302d45ed2423ca81a01ace3355689", func := "conjoin/conjoinlaw02.SherdSharp", spec := "sherdSharp", inPlace := ["internal/bytealg.IndexByteString", "internal/bytealg.IndexString"], unfollowed := true, recurses := true, named := ["internal/bytealg.MaxLen"], apart := false }
def SherdSharpSaid : Prop := sherdSharpRow.holds Tryz.pinned (OpenSpec.ofChange sherdSharpSpec)

/-- ITS FALSE NEIGHBOUR: 'it returns false'. Refute it at one input. -/
def sherdSharpWrong : ChangeSpec := { name := "sherdSharp", fn := fun _ => fun
  | [d1, d2, d3, d4, d5, d6] => { results := [.lit (.bool false)], args := [d1, d2, d3, d4, d5, d6] }
  | _ => none }
def SherdSharpWrongFalsely : Prop := sherdSharpRow.holds Tryz.pinned (OpenSpec.ofChange sherdSharpWrong)

/-- 'conjoinlaw02.SherdDoubts': WHATEVER THE INPUT: true; the input reads as it did. -/
def sherdDoubtsSpec : ChangeSpec := { name := "sherdDoubts", fn := fun _ => fun
  | [d1, d2, d3, d4] => { results := [.lit (.bool true)], args := [d1, d2, d3, d4] }
  | _ => none }
def sherdDoubtsRow : OpenClaim := { program := "ytelkcohhagblaaagreat", sum := "ee336b42c095cc26b7495759336d3ed88b1302d45ed2423ca81a01ace3355689", func := "conjoin/conjoinlaw02.SherdDoubts", spec := "sherdDoubts", inPlace := ["internal/bytealg.IndexByteString", "internal/bytealg.IndexString"], unfollowed := true, recurses := true, named := ["internal/bytealg.MaxLen"], apart := false }
def SherdDoubtsSaid : Prop := sherdDoubtsRow.holds Tryz.pinned (OpenSpec.ofChange sherdDoubtsSpec)

/-- ITS FALSE NEIGHBOUR: 'it returns false'. Refute it at one input. -/
def sherdDoubtsWrong : ChangeSpec := { name := "sherdDoubts", fn := fun _ => fun
  | [d1, d2, d3, d4] => { results := [.lit (.bool false)], args := [d1, d2, d3, d4] }
  | _ => none }
def SherdDoubtsWrongFalsely : Prop := sherdDoubtsRow.holds Tryz.pinned (OpenSpec.ofChange sherdDoubtsWrong)

/-- 'conjoinlaw02.SherdEither': WHATEVER THE INPUT: true; the input reads as it did. -/
def sherdEitherSpec : ChangeSpec := { name := "sherdEither", fn := fun _ => fun
  | [d1, d2, d3, d4] => { results := [.lit (.bool true)], args := [d1, d2, d3, d4] }
  | _ => none }
def sherdEitherRow : OpenClaim := { program := "ytelkcohhagblaaagreat", sum := "ee336b42c095cc26b7495759336d3ed88b1302d45ed2423ca81a01ace3355689", func := "conjoin/conjoinlaw02.SherdEither", spec := "sherdEither", inPlace := ["internal/bytealg.IndexByteString", "internal/bytealg.IndexString"], unfollowed := true, recurses := true, named := ["internal/bytealg.MaxLen"], apart := false }
def SherdEitherSaid : Prop := sherdEitherRow.holds Tryz.pinned (OpenSpec.ofChange sherdEitherSpec)

/-- ITS FALSE NEIGHBOUR: 'it returns false'. Refute it at one input. -/
def sherdEitherWrong : ChangeSpec := { name := "sherdEither", fn := fun _ => fun
  | [d1, d2, d3, d4] => { results := [.lit (.bool false)], args := [d1, d2, d3, d4] }
  | _ => none }
def SherdEitherWrongFalsely : Prop := sherdEitherRow.holds Tryz.pinned (OpenSpec.ofChange sherdEitherWrong)

/-- 'conjoinlaw02.SherdLists': WHATEVER THE INPUT: true; the input reads as it did. -/
def sherdListsSpec : ChangeSpec := { name := "sherdLists", fn := fun _ => fun
  | [d1, d2, d3, d4] => { results := [.lit (.bool true)], args := [d1, d2, d3, d4] }
  | _ => none }
def sherdListsRow : OpenClaim := { program := "ytelkcohhagblaaagreat", sum := "ee336b42c095cc26b7495759336d3ed88b1302d45ed2423ca81a01ace3355689", func := "conjoin/conjoinlaw02.SherdLists", spec := "sherdLists", inPlace := ["internal/bytealg.IndexByteString", "internal/bytealg.IndexString"], unfollowed := true, recurses := true, named := ["internal/bytealg.MaxLen"], apart := false }
def SherdListsSaid : Prop := sherdListsRow.holds Tryz.pinned (OpenSpec.ofChange sherdListsSpec)

/-- ITS FALSE NEIGHBOUR: 'it returns false'. Refute it at one input. -/
def sherdListsWrong : ChangeSpec := { name := "sherdLists", fn := fun _ => fun
  | [d1, d2, d3, d4] => { results := [.lit (.bool false)], args := [d1, d2, d3, d4] }
  | _ => none }
def SherdListsWrongFalsely : Prop := sherdListsRow.holds Tryz.pinned (OpenSpec.ofChange sherdListsWrong)

/-- 'conjoinlaw02.SherdKnown': WHATEVER THE INPUT: true; the input reads as it did. -/
def sherdKnownSpec : ChangeSpec := { name := "sherdKnown", fn := fun _ => fun
  | [d1, d2, d3, d4, d5, d6] => { results := [.lit (.bool true)], args := [d1, d2, d3, d4, d5, d6] }
  | _ => none }
def sherdKnownRow : OpenClaim := { program := "ytelkcohhagblaaagreat", sum := "ee336b42c095cc26b7495759336d3ed88b1302d45ed2423ca81a01ace3355689", func := "conjoin/conjoinlaw02.SherdKnown", spec := "sherdKnown", inPlace := ["internal/bytealg.IndexByteString", "internal/bytealg.IndexString"], unfollowed := true, recurses := true, named := ["internal/bytealg.MaxLen"], apart := false }
def SherdKnownSaid : Prop := sherdKnownRow.holds Tryz.pinned (OpenSpec.ofChange sherdKnownSpec)

/-- ITS FALSE NEIGHBOUR: 'it returns false'. Refute it at one input. -/
def sherdKnownWrong : ChangeSpec := { name := "sherdKnown", fn := fun _ => fun
  | [d1, d2, d3, d4, d5, d6] => { results := [.lit (.bool false)], args := [d1, d2, d3, d4, d5, d6] }
  | _ => none }
def SherdKnownWrongFalsely : Prop := sherdKnownRow.holds Tryz.pinned (OpenSpec.ofChange sherdKnownWrong)

/-- 'conjoinlaw02.SherdNarrows': WHATEVER THE INPUT: true; the input reads as it did. -/
def sherdNarrowsSpec : ChangeSpec := { name := "sherdNarrows", fn := fun _ => fun
  | [d1, d2, d3, d4, d5] => { results := [.lit (.bool true)], args := [d1, d2, d3, d4, d5] }
  | _ => none }
def sherdNarrowsRow : OpenClaim := { program := "ytelkcohhagblaaagreat", sum := "ee336b42c095cc26b7495759336d3ed88b1302d45ed2423ca81a01ace3355689", func := "conjoin/conjoinlaw02.SherdNarrows", spec := "sherdNarrows", inPlace := ["internal/bytealg.IndexByteString", "internal/bytealg.IndexString"], unfollowed := true, recurses := true, named := ["internal/bytealg.MaxLen"], apart := false }
def SherdNarrowsSaid : Prop := sherdNarrowsRow.holds Tryz.pinned (OpenSpec.ofChange sherdNarrowsSpec)

/-- ITS FALSE NEIGHBOUR: 'it returns false'. Refute it at one input. -/
def sherdNarrowsWrong : ChangeSpec := { name := "sherdNarrows", fn := fun _ => fun
  | [d1, d2, d3, d4, d5] => { results := [.lit (.bool false)], args := [d1, d2, d3, d4, d5] }
  | _ => none }
def SherdNarrowsWrongFalsely : Prop := sherdNarrowsRow.holds Tryz.pinned (OpenSpec.ofChange sherdNarrowsWrong)

/-- 'conjoinlaw02.SherdChanges': WHATEVER THE INPUT: true; the input reads as it did. -/
def sherdChangesSpec : ChangeSpec := { name := "sherdChanges", fn := fun _ => fun
  | [d1, d2, d3, d4] => { results := [.lit (.bool true)], args := [d1, d2, d3, d4] }
  | _ => none }
def sherdChangesRow : OpenClaim := { program := "ytelkcohhagblaaagreat", sum := "ee336b42c095cc26b7495759336d3ed88b1302d45ed2423ca81a01ace3355689", func := "conjoin/conjoinlaw02.SherdChanges", spec := "sherdChanges", inPlace := ["internal/bytealg.IndexByteString", "internal/bytealg.IndexString"], unfollowed := true, recurses := true, named := ["internal/bytealg.MaxLen"], apart := false }
def SherdChangesSaid : Prop := sherdChangesRow.holds Tryz.pinned (OpenSpec.ofChange sherdChangesSpec)

/-- ITS FALSE NEIGHBOUR: 'it returns false'. Refute it at one input. -/
def sherdChangesWrong : ChangeSpec := { name := "sherdChanges", fn := fun _ => fun
  | [d1, d2, d3, d4] => { results := [.lit (.bool false)], args := [d1, d2, d3, d4] }
  | _ => none }
def SherdChangesWrongFalsely : Prop := sherdChangesRow.holds Tryz.pinned (OpenSpec.ofChange sherdChangesWrong)

/- THE SECOND FORM. 'bulk': how many values and letters a reading holds, each counted each time it is reached (what is shared counts as often as it is met; a slice's spare places count too). A statement '..UptoSaid' is the law's where the arguments, and the package variables that the reading takes, are together of bulk at most 1048576: NARROWER than '..Said'. Prove '..Said' where nothing that the law and all that it calls make is longer than what came in: it says more and counts as full. Else prove '..UptoSaid'. A law counts once. -/
mutual
def uptoBulk {H : Type} : DataW H → Nat
  | .lit (.string bytes) => bytes.length + 1
  | .lit _ => 1
  | .nil => 1
  | .ptr d => uptoBulk d + 1
  | .slice elems spare => uptoBulkAll elems + uptoBulkAll spare + 1
  | .agg parts => uptoBulkAll parts + 1
  | .iface _ d => uptoBulk d + 1
  | .map entries => uptoBulkEntries entries + 1
  | .held _ => 1
def uptoBulkAll {H : Type} : List (DataW H) → Nat
  | [] => 0
  | d :: r => uptoBulk d + uptoBulkAll r
def uptoBulkEntries {H : Type} : List (Lit × DataW H) → Nat
  | [] => 0
  | x :: r => uptoBulkEntry x + uptoBulkEntries r
def uptoBulkEntry {H : Type} : Lit × DataW H → Nat
  | (.string bytes, d) => bytes.length + uptoBulk d + 1
  | (_, d) => uptoBulk d + 1
 end
def uptoSmall : (H : Type) → List (DataW H) → Bool := fun _ ds => decide (uptoBulkAll ds ≤ 1048576)
def OpenSpec.upto (s : _root_.Go.ChangeSpec) : _root_.Go.OpenSpec := { _root_.Go.OpenSpec.ofChange s with cond := some uptoSmall }

/-- 'conjoinlaw02.SherdChecks', WHERE WHAT IT READS IS OF BULK AT MOST 1048576: true; the input reads as it did. -/
def sherdChecksUptoRow : OpenClaim := { program := "ytelkcohhagblaaagreat", sum := "ee336b42c095cc26b7495759336d3ed88b1302d45ed2423ca81a01ace3355689", func := "conjoin/conjoinlaw02.SherdChecks", spec := "sherdChecks", inPlace := ["internal/bytealg.IndexByteString", "internal/bytealg.IndexString"], unfollowed := true, recurses := true, named := ["internal/bytealg.MaxLen"], apart := false, narrowed := true }
def SherdChecksUptoSaid : Prop := sherdChecksUptoRow.holds Tryz.pinned (OpenSpec.upto sherdChecksSpec)

/-- 'conjoinlaw02.SherdMost', WHERE WHAT IT READS IS OF BULK AT MOST 1048576: true; the input reads as it did. -/
def sherdMostUptoRow : OpenClaim := { program := "ytelkcohhagblaaagreat", sum := "ee336b42c095cc26b7495759336d3ed88b1302d45ed2423ca81a01ace3355689", func := "conjoin/conjoinlaw02.SherdMost", spec := "sherdMost", inPlace := ["internal/bytealg.IndexByteString", "internal/bytealg.IndexString"], unfollowed := true, recurses := true, named := ["internal/bytealg.MaxLen"], apart := false, narrowed := true }
def SherdMostUptoSaid : Prop := sherdMostUptoRow.holds Tryz.pinned (OpenSpec.upto sherdMostSpec)

/-- 'conjoinlaw02.SherdWays', WHERE WHAT IT READS IS OF BULK AT MOST 1048576: true; the input reads as it did. -/
def sherdWaysUptoRow : OpenClaim := { program := "ytelkcohhagblaaagreat", sum := "ee336b42c095cc26b7495759336d3ed88b1302d45ed2423ca81a01ace3355689", func := "conjoin/conjoinlaw02.SherdWays", spec := "sherdWays", inPlace := ["internal/bytealg.IndexByteString", "internal/bytealg.IndexString"], unfollowed := true, recurses := true, named := ["internal/bytealg.MaxLen"], apart := false, narrowed := true }
def SherdWaysUptoSaid : Prop := sherdWaysUptoRow.holds Tryz.pinned (OpenSpec.upto sherdWaysSpec)

/-- 'conjoinlaw02.SherdChains', WHERE WHAT IT READS IS OF BULK AT MOST 1048576: true; the input reads as it did. -/
def sherdChainsUptoRow : OpenClaim := { program := "ytelkcohhagblaaagreat", sum := "ee336b42c095cc26b7495759336d3ed88b1302d45ed2423ca81a01ace3355689", func := "conjoin/conjoinlaw02.SherdChains", spec := "sherdChains", inPlace := ["internal/bytealg.IndexByteString", "internal/bytealg.IndexString"], unfollowed := true, recurses := true, named := ["internal/bytealg.MaxLen"], apart := false, narrowed := true }
def SherdChainsUptoSaid : Prop := sherdChainsUptoRow.holds Tryz.pinned (OpenSpec.upto sherdChainsSpec)

/-- 'conjoinlaw02.SherdOutlines', WHERE WHAT IT READS IS OF BULK AT MOST 1048576: true; the input reads as it did. -/
def sherdOutlinesUptoRow : OpenClaim := { program := "ytelkcohhagblaaagreat", sum := "ee336b42c095cc26b7495759336d3ed88b1302d45ed2423ca81a01ace3355689", func := "conjoin/conjoinlaw02.SherdOutlines", spec := "sherdOutlines", inPlace := ["internal/bytealg.IndexByteString", "internal/bytealg.IndexString"], unfollowed := true, recurses := true, named := ["internal/bytealg.MaxLen"], apart := false, narrowed := true }
def SherdOutlinesUptoSaid : Prop := sherdOutlinesUptoRow.holds Tryz.pinned (OpenSpec.upto sherdOutlinesSpec)

/-- 'conjoinlaw02.SherdRests', WHERE WHAT IT READS IS OF BULK AT MOST 1048576: true; the input reads as it did. -/
def sherdRestsUptoRow : OpenClaim := { program := "ytelkcohhagblaaagreat", sum := "ee336b42c095cc26b7495759336d3ed88b1302d45ed2423ca81a01ace3355689", func := "conjoin/conjoinlaw02.SherdRests", spec := "sherdRests", inPlace := ["internal/bytealg.IndexByteString", "internal/bytealg.IndexString"], unfollowed := true, recurses := true, named := ["internal/bytealg.MaxLen"], apart := false, narrowed := true }
def SherdRestsUptoSaid : Prop := sherdRestsUptoRow.holds Tryz.pinned (OpenSpec.upto sherdRestsSpec)

/-- 'conjoinlaw02.SherdMemory', WHERE WHAT IT READS IS OF BULK AT MOST 1048576: true; the input reads as it did. -/
def sherdMemoryUptoRow : OpenClaim := { program := "ytelkcohhagblaaagreat", sum := "ee336b42c095cc26b7495759336d3ed88b1302d45ed2423ca81a01ace3355689", func := "conjoin/conjoinlaw02.SherdMemory", spec := "sherdMemory", inPlace := ["internal/bytealg.IndexByteString", "internal/bytealg.IndexString"], unfollowed := true, recurses := true, named := ["internal/bytealg.MaxLen"], apart := false, narrowed := true }
def SherdMemoryUptoSaid : Prop := sherdMemoryUptoRow.holds Tryz.pinned (OpenSpec.upto sherdMemorySpec)

/-- 'conjoinlaw02.SherdLineage', WHERE WHAT IT READS IS OF BULK AT MOST 1048576: true; the input reads as it did. -/
def sherdLineageUptoRow : OpenClaim := { program := "ytelkcohhagblaaagreat", sum := "ee336b42c095cc26b7495759336d3ed88b1302d45ed2423ca81a01ace3355689", func := "conjoin/conjoinlaw02.SherdLineage", spec := "sherdLineage", inPlace := ["internal/bytealg.IndexByteString", "internal/bytealg.IndexString"], unfollowed := true, recurses := true, named := ["internal/bytealg.MaxLen"], apart := false, narrowed := true }
def SherdLineageUptoSaid : Prop := sherdLineageUptoRow.holds Tryz.pinned (OpenSpec.upto sherdLineageSpec)

/-- 'conjoinlaw02.SherdSharp', WHERE WHAT IT READS IS OF BULK AT MOST 1048576: true; the input reads as it did. -/
def sherdSharpUptoRow : OpenClaim := { program := "ytelkcohhagblaaagreat", sum := "ee336b42c095cc26b7495759336d3ed88b1302d45ed2423ca81a01ace3355689", func := "conjoin/conjoinlaw02.SherdSharp", spec := "sherdSharp", inPlace := ["internal/bytealg.IndexByteString", "internal/bytealg.IndexString"], unfollowed := true, recurses := true, named := ["internal/bytealg.MaxLen"], apart := false, narrowed := true }
def SherdSharpUptoSaid : Prop := sherdSharpUptoRow.holds Tryz.pinned (OpenSpec.upto sherdSharpSpec)

/-- 'conjoinlaw02.SherdDoubts', WHERE WHAT IT READS IS OF BULK AT MOST 1048576: true; the input reads as it did. -/
def sherdDoubtsUptoRow : OpenClaim := { program := "ytelkcohhagblaaagreat", sum := "ee336b42c095cc26b7495759336d3ed88b1302d45ed2423ca81a01ace3355689", func := "conjoin/conjoinlaw02.SherdDoubts", spec := "sherdDoubts", inPlace := ["internal/bytealg.IndexByteString", "internal/bytealg.IndexString"], unfollowed := true, recurses := true, named := ["internal/bytealg.MaxLen"], apart := false, narrowed := true }
def SherdDoubtsUptoSaid : Prop := sherdDoubtsUptoRow.holds Tryz.pinned (OpenSpec.upto sherdDoubtsSpec)

/-- 'conjoinlaw02.SherdEither', WHERE WHAT IT READS IS OF BULK AT MOST 1048576: true; the input reads as it did. -/
def sherdEitherUptoRow : OpenClaim := { program := "ytelkcohhagblaaagreat", sum := "ee336b42c095cc26b7495759336d3ed88b1302d45ed2423ca81a01ace3355689", func := "conjoin/conjoinlaw02.SherdEither", spec := "sherdEither", inPlace := ["internal/bytealg.IndexByteString", "internal/bytealg.IndexString"], unfollowed := true, recurses := true, named := ["internal/bytealg.MaxLen"], apart := false, narrowed := true }
def SherdEitherUptoSaid : Prop := sherdEitherUptoRow.holds Tryz.pinned (OpenSpec.upto sherdEitherSpec)

/-- 'conjoinlaw02.SherdLists', WHERE WHAT IT READS IS OF BULK AT MOST 1048576: true; the input reads as it did. -/
def sherdListsUptoRow : OpenClaim := { program := "ytelkcohhagblaaagreat", sum := "ee336b42c095cc26b7495759336d3ed88b1302d45ed2423ca81a01ace3355689", func := "conjoin/conjoinlaw02.SherdLists", spec := "sherdLists", inPlace := ["internal/bytealg.IndexByteString", "internal/bytealg.IndexString"], unfollowed := true, recurses := true, named := ["internal/bytealg.MaxLen"], apart := false, narrowed := true }
def SherdListsUptoSaid : Prop := sherdListsUptoRow.holds Tryz.pinned (OpenSpec.upto sherdListsSpec)

/-- 'conjoinlaw02.SherdKnown', WHERE WHAT IT READS IS OF BULK AT MOST 1048576: true; the input reads as it did. -/
def sherdKnownUptoRow : OpenClaim := { program := "ytelkcohhagblaaagreat", sum := "ee336b42c095cc26b7495759336d3ed88b1302d45ed2423ca81a01ace3355689", func := "conjoin/conjoinlaw02.SherdKnown", spec := "sherdKnown", inPlace := ["internal/bytealg.IndexByteString", "internal/bytealg.IndexString"], unfollowed := true, recurses := true, named := ["internal/bytealg.MaxLen"], apart := false, narrowed := true }
def SherdKnownUptoSaid : Prop := sherdKnownUptoRow.holds Tryz.pinned (OpenSpec.upto sherdKnownSpec)

/-- 'conjoinlaw02.SherdNarrows', WHERE WHAT IT READS IS OF BULK AT MOST 1048576: true; the input reads as it did. -/
def sherdNarrowsUptoRow : OpenClaim := { program := "ytelkcohhagblaaagreat", sum := "ee336b42c095cc26b7495759336d3ed88b1302d45ed2423ca81a01ace3355689", func := "conjoin/conjoinlaw02.SherdNarrows", spec := "sherdNarrows", inPlace := ["internal/bytealg.IndexByteString", "internal/bytealg.IndexString"], unfollowed := true, recurses := true, named := ["internal/bytealg.MaxLen"], apart := false, narrowed := true }
def SherdNarrowsUptoSaid : Prop := sherdNarrowsUptoRow.holds Tryz.pinned (OpenSpec.upto sherdNarrowsSpec)

/-- 'conjoinlaw02.SherdChanges', WHERE WHAT IT READS IS OF BULK AT MOST 1048576: true; the input reads as it did. -/
def sherdChangesUptoRow : OpenClaim := { program := "ytelkcohhagblaaagreat", sum := "ee336b42c095cc26b7495759336d3ed88b1302d45ed2423ca81a01ace3355689", func := "conjoin/conjoinlaw02.SherdChanges", spec := "sherdChanges", inPlace := ["internal/bytealg.IndexByteString", "internal/bytealg.IndexString"], unfollowed := true, recurses := true, named := ["internal/bytealg.MaxLen"], apart := false, narrowed := true }
def SherdChangesUptoSaid : Prop := sherdChangesUptoRow.holds Tryz.pinned (OpenSpec.upto sherdChangesSpec)

end Rows
end Go.Proofs.YtelkcohhagblaaaGreat
