/-
  No cell of these rows narrows 'for every input' (looked for: loops, veiled, ifaces, maps, wideKeys, modest, calm, conditions, laid).
  DERIVED. THE GIVEN ROWS OF THIS SEAT. 17 by the template 'for every input the law returns true; each argument reads behind the call as it read before'; 0 by the template 'total and deterministic' (their statements: YtlkcfohmoeadbaaTotals.lean).
  GIVEN WITH THE SEED: the statements are not yours to turn. If you find one false, say at which input.
  Laid BY PROGRAM, IN A SANDBOX (cutbox-rows.mjs): the forced cells as the released guide's own fill.sh prints them over the translation 65ba7b04204046d4… (all of the seat's roots in one cut). By AI agents, Wed Nov 11 2026. No macro, syntax, notation, axiom, sorry.
-/
import Derived.Test.YtlkcfohmoeadbaaChecked
import GoSem.Claim
import GoSem.ClaimJoined
import GoSem.ClaimMapViews
import Derived.JoinedTies
import Derived.KernelRfl
namespace Go.Proofs.Ytlkcfohmoeadbaa
/- THE CELL 'sum', in the pinned program and in every row, IS THE sha256 OF THE DUMP (.gsa) THAT YtlkcfohmoeadbaaProg.lean LOADS. Nothing in Lean hashes anything: it is a label: what it is worth is what the hold of that sum in a sandbox is worth. -/
noncomputable def Try.pinned : Pinned := { name := "ytlkcfohmoeadbaa", sum := "65ba7b04204046d48e8c36532ffef502d9dc57ecbec1fd6248d343a54cd41852", checked := Try.checked }
namespace Rows
def none {H : Type} : Left H := { results := [], args := [] }

/-- 'conjoinlaw01.GaugeSolves': WHATEVER THE INPUT: true; the input reads as it did. -/
def gaugeSolvesSpec : ChangeSpec := { name := "gaugeSolves", fn := fun _ => fun
  | [d] => { results := [.lit (.bool true)], args := [d] }
  | _ => none }
def gaugeSolvesRow : OpenClaim := { program := "ytlkcfohmoeadbaa", sum := "65ba7b04204046d48e8c36532ffef502d9dc57ecbec1fd6248d343a54cd41852", func := "conjoin/conjoinlaw01.GaugeSolves", spec := "gaugeSolves", unfollowed := true, recurses := true, apart := false }
def GaugeSolvesSaid : Prop := gaugeSolvesRow.holds Try.pinned (OpenSpec.ofChange gaugeSolvesSpec)

/-- ITS FALSE NEIGHBOUR: 'it returns false'. Refute it at one input. -/
def gaugeSolvesWrong : ChangeSpec := { name := "gaugeSolves", fn := fun _ => fun
  | [d] => { results := [.lit (.bool false)], args := [d] }
  | _ => none }
def GaugeSolvesWrongFalsely : Prop := gaugeSolvesRow.holds Try.pinned (OpenSpec.ofChange gaugeSolvesWrong)

/-- 'conjoinlaw01.GaugeAttains': WHATEVER THE INPUT: true; the input reads as it did. -/
def gaugeAttainsSpec : ChangeSpec := { name := "gaugeAttains", fn := fun _ => fun
  | [d1, d2, d3, d4] => { results := [.lit (.bool true)], args := [d1, d2, d3, d4] }
  | _ => none }
def gaugeAttainsRow : OpenClaim := { program := "ytlkcfohmoeadbaa", sum := "65ba7b04204046d48e8c36532ffef502d9dc57ecbec1fd6248d343a54cd41852", func := "conjoin/conjoinlaw01.GaugeAttains", spec := "gaugeAttains", unfollowed := true, recurses := true, apart := false }
def GaugeAttainsSaid : Prop := gaugeAttainsRow.holds Try.pinned (OpenSpec.ofChange gaugeAttainsSpec)

/-- ITS FALSE NEIGHBOUR: 'it returns false'. Refute it at one input. -/
def gaugeAttainsWrong : ChangeSpec := { name := "gaugeAttains", fn := fun _ => fun
  | [d1, d2, d3, d4] => { results := [.lit (.bool false)], args := [d1, d2, d3, d4] }
  | _ => none }
def GaugeAttainsWrongFalsely : Prop := gaugeAttainsRow.holds Try.pinned (OpenSpec.ofChange gaugeAttainsWrong)

/-- 'conjoinlaw01.GaugeRests': WHATEVER THE INPUT: true; the input reads as it did. -/
def gaugeRestsSpec : ChangeSpec := { name := "gaugeRests", fn := fun _ => fun
  | [d1, d2, d3, d4] => { results := [.lit (.bool true)], args := [d1, d2, d3, d4] }
  | _ => none }
def gaugeRestsRow : OpenClaim := { program := "ytlkcfohmoeadbaa", sum := "65ba7b04204046d48e8c36532ffef502d9dc57ecbec1fd6248d343a54cd41852", func := "conjoin/conjoinlaw01.GaugeRests", spec := "gaugeRests", unfollowed := true, recurses := true, apart := false }
def GaugeRestsSaid : Prop := gaugeRestsRow.holds Try.pinned (OpenSpec.ofChange gaugeRestsSpec)

/-- ITS FALSE NEIGHBOUR: 'it returns false'. Refute it at one input. -/
def gaugeRestsWrong : ChangeSpec := { name := "gaugeRests", fn := fun _ => fun
  | [d1, d2, d3, d4] => { results := [.lit (.bool false)], args := [d1, d2, d3, d4] }
  | _ => none }
def GaugeRestsWrongFalsely : Prop := gaugeRestsRow.holds Try.pinned (OpenSpec.ofChange gaugeRestsWrong)

/-- 'conjoinlaw01.GaugeChanged': WHATEVER THE INPUT: true; the input reads as it did. -/
def gaugeChangedSpec : ChangeSpec := { name := "gaugeChanged", fn := fun _ => fun
  | [d1, d2, d3] => { results := [.lit (.bool true)], args := [d1, d2, d3] }
  | _ => none }
def gaugeChangedRow : OpenClaim := { program := "ytlkcfohmoeadbaa", sum := "65ba7b04204046d48e8c36532ffef502d9dc57ecbec1fd6248d343a54cd41852", func := "conjoin/conjoinlaw01.GaugeChanged", spec := "gaugeChanged", unfollowed := true, recurses := true, apart := false }
def GaugeChangedSaid : Prop := gaugeChangedRow.holds Try.pinned (OpenSpec.ofChange gaugeChangedSpec)

/-- ITS FALSE NEIGHBOUR: 'it returns false'. Refute it at one input. -/
def gaugeChangedWrong : ChangeSpec := { name := "gaugeChanged", fn := fun _ => fun
  | [d1, d2, d3] => { results := [.lit (.bool false)], args := [d1, d2, d3] }
  | _ => none }
def GaugeChangedWrongFalsely : Prop := gaugeChangedRow.holds Try.pinned (OpenSpec.ofChange gaugeChangedWrong)

/-- 'conjoinlaw01.GaugeTriangles': WHATEVER THE INPUT: true; the input reads as it did. -/
def gaugeTrianglesSpec : ChangeSpec := { name := "gaugeTriangles", fn := fun _ => fun
  | [d1, d2, d3, d4] => { results := [.lit (.bool true)], args := [d1, d2, d3, d4] }
  | _ => none }
def gaugeTrianglesRow : OpenClaim := { program := "ytlkcfohmoeadbaa", sum := "65ba7b04204046d48e8c36532ffef502d9dc57ecbec1fd6248d343a54cd41852", func := "conjoin/conjoinlaw01.GaugeTriangles", spec := "gaugeTriangles", unfollowed := true, recurses := true, apart := false }
def GaugeTrianglesSaid : Prop := gaugeTrianglesRow.holds Try.pinned (OpenSpec.ofChange gaugeTrianglesSpec)

/-- ITS FALSE NEIGHBOUR: 'it returns false'. Refute it at one input. -/
def gaugeTrianglesWrong : ChangeSpec := { name := "gaugeTriangles", fn := fun _ => fun
  | [d1, d2, d3, d4] => { results := [.lit (.bool false)], args := [d1, d2, d3, d4] }
  | _ => none }
def GaugeTrianglesWrongFalsely : Prop := gaugeTrianglesRow.holds Try.pinned (OpenSpec.ofChange gaugeTrianglesWrong)

/-- 'conjoinlaw01.GaugeEnds': WHATEVER THE INPUT: true; the input reads as it did. -/
def gaugeEndsSpec : ChangeSpec := { name := "gaugeEnds", fn := fun _ => fun
  | [d1, d2, d3] => { results := [.lit (.bool true)], args := [d1, d2, d3] }
  | _ => none }
def gaugeEndsRow : OpenClaim := { program := "ytlkcfohmoeadbaa", sum := "65ba7b04204046d48e8c36532ffef502d9dc57ecbec1fd6248d343a54cd41852", func := "conjoin/conjoinlaw01.GaugeEnds", spec := "gaugeEnds", unfollowed := true, recurses := true, apart := false }
def GaugeEndsSaid : Prop := gaugeEndsRow.holds Try.pinned (OpenSpec.ofChange gaugeEndsSpec)

/-- ITS FALSE NEIGHBOUR: 'it returns false'. Refute it at one input. -/
def gaugeEndsWrong : ChangeSpec := { name := "gaugeEnds", fn := fun _ => fun
  | [d1, d2, d3] => { results := [.lit (.bool false)], args := [d1, d2, d3] }
  | _ => none }
def GaugeEndsWrongFalsely : Prop := gaugeEndsRow.holds Try.pinned (OpenSpec.ofChange gaugeEndsWrong)

/-- 'conjoinlaw01.GaugeRigid': WHATEVER THE INPUT: true; the input reads as it did. -/
def gaugeRigidSpec : ChangeSpec := { name := "gaugeRigid", fn := fun _ => fun
  | [d] => { results := [.lit (.bool true)], args := [d] }
  | _ => none }
def gaugeRigidRow : OpenClaim := { program := "ytlkcfohmoeadbaa", sum := "65ba7b04204046d48e8c36532ffef502d9dc57ecbec1fd6248d343a54cd41852", func := "conjoin/conjoinlaw01.GaugeRigid", spec := "gaugeRigid", unfollowed := true, recurses := true, apart := false }
def GaugeRigidSaid : Prop := gaugeRigidRow.holds Try.pinned (OpenSpec.ofChange gaugeRigidSpec)

/-- ITS FALSE NEIGHBOUR: 'it returns false'. Refute it at one input. -/
def gaugeRigidWrong : ChangeSpec := { name := "gaugeRigid", fn := fun _ => fun
  | [d] => { results := [.lit (.bool false)], args := [d] }
  | _ => none }
def GaugeRigidWrongFalsely : Prop := gaugeRigidRow.holds Try.pinned (OpenSpec.ofChange gaugeRigidWrong)

/-- 'conjoinlaw01.GaugeMore': WHATEVER THE INPUT: true; the input reads as it did. -/
def gaugeMoreSpec : ChangeSpec := { name := "gaugeMore", fn := fun _ => fun
  | [d1, d2, d3, d4, d5] => { results := [.lit (.bool true)], args := [d1, d2, d3, d4, d5] }
  | _ => none }
def gaugeMoreRow : OpenClaim := { program := "ytlkcfohmoeadbaa", sum := "65ba7b04204046d48e8c36532ffef502d9dc57ecbec1fd6248d343a54cd41852", func := "conjoin/conjoinlaw01.GaugeMore", spec := "gaugeMore", unfollowed := true, recurses := true, apart := false }
def GaugeMoreSaid : Prop := gaugeMoreRow.holds Try.pinned (OpenSpec.ofChange gaugeMoreSpec)

/-- ITS FALSE NEIGHBOUR: 'it returns false'. Refute it at one input. -/
def gaugeMoreWrong : ChangeSpec := { name := "gaugeMore", fn := fun _ => fun
  | [d1, d2, d3, d4, d5] => { results := [.lit (.bool false)], args := [d1, d2, d3, d4, d5] }
  | _ => none }
def GaugeMoreWrongFalsely : Prop := gaugeMoreRow.holds Try.pinned (OpenSpec.ofChange gaugeMoreWrong)

/-- 'conjoinlaw01.GaugeMemory': WHATEVER THE INPUT: true; the input reads as it did. -/
def gaugeMemorySpec : ChangeSpec := { name := "gaugeMemory", fn := fun _ => fun
  | [d1, d2, d3, d4] => { results := [.lit (.bool true)], args := [d1, d2, d3, d4] }
  | _ => none }
def gaugeMemoryRow : OpenClaim := { program := "ytlkcfohmoeadbaa", sum := "65ba7b04204046d48e8c36532ffef502d9dc57ecbec1fd6248d343a54cd41852", func := "conjoin/conjoinlaw01.GaugeMemory", spec := "gaugeMemory", unfollowed := true, recurses := true, apart := false }
def GaugeMemorySaid : Prop := gaugeMemoryRow.holds Try.pinned (OpenSpec.ofChange gaugeMemorySpec)

/-- ITS FALSE NEIGHBOUR: 'it returns false'. Refute it at one input. -/
def gaugeMemoryWrong : ChangeSpec := { name := "gaugeMemory", fn := fun _ => fun
  | [d1, d2, d3, d4] => { results := [.lit (.bool false)], args := [d1, d2, d3, d4] }
  | _ => none }
def GaugeMemoryWrongFalsely : Prop := gaugeMemoryRow.holds Try.pinned (OpenSpec.ofChange gaugeMemoryWrong)

/-- 'conjoinlaw01.GaugeHighest': WHATEVER THE INPUT: true; the input reads as it did. -/
def gaugeHighestSpec : ChangeSpec := { name := "gaugeHighest", fn := fun _ => fun
  | [d1, d2, d3] => { results := [.lit (.bool true)], args := [d1, d2, d3] }
  | _ => none }
def gaugeHighestRow : OpenClaim := { program := "ytlkcfohmoeadbaa", sum := "65ba7b04204046d48e8c36532ffef502d9dc57ecbec1fd6248d343a54cd41852", func := "conjoin/conjoinlaw01.GaugeHighest", spec := "gaugeHighest", unfollowed := true, recurses := true, apart := false }
def GaugeHighestSaid : Prop := gaugeHighestRow.holds Try.pinned (OpenSpec.ofChange gaugeHighestSpec)

/-- ITS FALSE NEIGHBOUR: 'it returns false'. Refute it at one input. -/
def gaugeHighestWrong : ChangeSpec := { name := "gaugeHighest", fn := fun _ => fun
  | [d1, d2, d3] => { results := [.lit (.bool false)], args := [d1, d2, d3] }
  | _ => none }
def GaugeHighestWrongFalsely : Prop := gaugeHighestRow.holds Try.pinned (OpenSpec.ofChange gaugeHighestWrong)

/-- 'conjoinlaw01.GaugeTies': WHATEVER THE INPUT: true; the input reads as it did. -/
def gaugeTiesSpec : ChangeSpec := { name := "gaugeTies", fn := fun _ => fun
  | [d1, d2, d3, d4, d5] => { results := [.lit (.bool true)], args := [d1, d2, d3, d4, d5] }
  | _ => none }
def gaugeTiesRow : OpenClaim := { program := "ytlkcfohmoeadbaa", sum := "65ba7b04204046d48e8c36532ffef502d9dc57ecbec1fd6248d343a54cd41852", func := "conjoin/conjoinlaw01.GaugeTies", spec := "gaugeTies", unfollowed := true, recurses := true, apart := false }
def GaugeTiesSaid : Prop := gaugeTiesRow.holds Try.pinned (OpenSpec.ofChange gaugeTiesSpec)

/-- ITS FALSE NEIGHBOUR: 'it returns false'. Refute it at one input. -/
def gaugeTiesWrong : ChangeSpec := { name := "gaugeTies", fn := fun _ => fun
  | [d1, d2, d3, d4, d5] => { results := [.lit (.bool false)], args := [d1, d2, d3, d4, d5] }
  | _ => none }
def GaugeTiesWrongFalsely : Prop := gaugeTiesRow.holds Try.pinned (OpenSpec.ofChange gaugeTiesWrong)

/-- 'conjoinlaw01.GaugeMinimal': WHATEVER THE INPUT: true; the input reads as it did. -/
def gaugeMinimalSpec : ChangeSpec := { name := "gaugeMinimal", fn := fun _ => fun
  | [d1, d2, d3, d4] => { results := [.lit (.bool true)], args := [d1, d2, d3, d4] }
  | _ => none }
def gaugeMinimalRow : OpenClaim := { program := "ytlkcfohmoeadbaa", sum := "65ba7b04204046d48e8c36532ffef502d9dc57ecbec1fd6248d343a54cd41852", func := "conjoin/conjoinlaw01.GaugeMinimal", spec := "gaugeMinimal", unfollowed := true, recurses := true, apart := false }
def GaugeMinimalSaid : Prop := gaugeMinimalRow.holds Try.pinned (OpenSpec.ofChange gaugeMinimalSpec)

/-- ITS FALSE NEIGHBOUR: 'it returns false'. Refute it at one input. -/
def gaugeMinimalWrong : ChangeSpec := { name := "gaugeMinimal", fn := fun _ => fun
  | [d1, d2, d3, d4] => { results := [.lit (.bool false)], args := [d1, d2, d3, d4] }
  | _ => none }
def GaugeMinimalWrongFalsely : Prop := gaugeMinimalRow.holds Try.pinned (OpenSpec.ofChange gaugeMinimalWrong)

/-- 'conjoinlaw01.GaugeCircles': WHATEVER THE INPUT: true; the input reads as it did. -/
def gaugeCirclesSpec : ChangeSpec := { name := "gaugeCircles", fn := fun _ => fun
  | [d1, d2] => { results := [.lit (.bool true)], args := [d1, d2] }
  | _ => none }
def gaugeCirclesRow : OpenClaim := { program := "ytlkcfohmoeadbaa", sum := "65ba7b04204046d48e8c36532ffef502d9dc57ecbec1fd6248d343a54cd41852", func := "conjoin/conjoinlaw01.GaugeCircles", spec := "gaugeCircles", unfollowed := true, recurses := true, apart := false }
def GaugeCirclesSaid : Prop := gaugeCirclesRow.holds Try.pinned (OpenSpec.ofChange gaugeCirclesSpec)

/-- ITS FALSE NEIGHBOUR: 'it returns false'. Refute it at one input. -/
def gaugeCirclesWrong : ChangeSpec := { name := "gaugeCircles", fn := fun _ => fun
  | [d1, d2] => { results := [.lit (.bool false)], args := [d1, d2] }
  | _ => none }
def GaugeCirclesWrongFalsely : Prop := gaugeCirclesRow.holds Try.pinned (OpenSpec.ofChange gaugeCirclesWrong)

/-- 'conjoinlaw01.GaugeBeside': WHATEVER THE INPUT: true; the input reads as it did. -/
def gaugeBesideSpec : ChangeSpec := { name := "gaugeBeside", fn := fun _ => fun
  | [d1, d2, d3, d4, d5, d6] => { results := [.lit (.bool true)], args := [d1, d2, d3, d4, d5, d6] }
  | _ => none }
def gaugeBesideRow : OpenClaim := { program := "ytlkcfohmoeadbaa", sum := "65ba7b04204046d48e8c36532ffef502d9dc57ecbec1fd6248d343a54cd41852", func := "conjoin/conjoinlaw01.GaugeBeside", spec := "gaugeBeside", unfollowed := true, recurses := true, apart := false }
def GaugeBesideSaid : Prop := gaugeBesideRow.holds Try.pinned (OpenSpec.ofChange gaugeBesideSpec)

/-- ITS FALSE NEIGHBOUR: 'it returns false'. Refute it at one input. -/
def gaugeBesideWrong : ChangeSpec := { name := "gaugeBeside", fn := fun _ => fun
  | [d1, d2, d3, d4, d5, d6] => { results := [.lit (.bool false)], args := [d1, d2, d3, d4, d5, d6] }
  | _ => none }
def GaugeBesideWrongFalsely : Prop := gaugeBesideRow.holds Try.pinned (OpenSpec.ofChange gaugeBesideWrong)

/-- 'conjoinlaw01.GaugePaths': WHATEVER THE INPUT: true; the input reads as it did. -/
def gaugePathsSpec : ChangeSpec := { name := "gaugePaths", fn := fun _ => fun
  | [d1, d2, d3, d4, d5] => { results := [.lit (.bool true)], args := [d1, d2, d3, d4, d5] }
  | _ => none }
def gaugePathsRow : OpenClaim := { program := "ytlkcfohmoeadbaa", sum := "65ba7b04204046d48e8c36532ffef502d9dc57ecbec1fd6248d343a54cd41852", func := "conjoin/conjoinlaw01.GaugePaths", spec := "gaugePaths", unfollowed := true, recurses := true, apart := false }
def GaugePathsSaid : Prop := gaugePathsRow.holds Try.pinned (OpenSpec.ofChange gaugePathsSpec)

/-- ITS FALSE NEIGHBOUR: 'it returns false'. Refute it at one input. -/
def gaugePathsWrong : ChangeSpec := { name := "gaugePaths", fn := fun _ => fun
  | [d1, d2, d3, d4, d5] => { results := [.lit (.bool false)], args := [d1, d2, d3, d4, d5] }
  | _ => none }
def GaugePathsWrongFalsely : Prop := gaugePathsRow.holds Try.pinned (OpenSpec.ofChange gaugePathsWrong)

/-- 'conjoinlaw01.GaugeSharp': WHATEVER THE INPUT: true; the input reads as it did. -/
def gaugeSharpSpec : ChangeSpec := { name := "gaugeSharp", fn := fun _ => fun
  | [d1, d2, d3, d4, d5, d6, d7] => { results := [.lit (.bool true)], args := [d1, d2, d3, d4, d5, d6, d7] }
  | _ => none }
def gaugeSharpRow : OpenClaim := { program := "ytlkcfohmoeadbaa", sum := "65ba7b04204046d48e8c36532ffef502d9dc57ecbec1fd6248d343a54cd41852", func := "conjoin/conjoinlaw01.GaugeSharp", spec := "gaugeSharp", unfollowed := true, recurses := true, apart := false }
def GaugeSharpSaid : Prop := gaugeSharpRow.holds Try.pinned (OpenSpec.ofChange gaugeSharpSpec)

/-- ITS FALSE NEIGHBOUR: 'it returns false'. Refute it at one input. -/
def gaugeSharpWrong : ChangeSpec := { name := "gaugeSharp", fn := fun _ => fun
  | [d1, d2, d3, d4, d5, d6, d7] => { results := [.lit (.bool false)], args := [d1, d2, d3, d4, d5, d6, d7] }
  | _ => none }
def GaugeSharpWrongFalsely : Prop := gaugeSharpRow.holds Try.pinned (OpenSpec.ofChange gaugeSharpWrong)

/-- 'conjoinlaw01.GaugeEither': WHATEVER THE INPUT: true; the input reads as it did. -/
def gaugeEitherSpec : ChangeSpec := { name := "gaugeEither", fn := fun _ => fun
  | [d1, d2, d3] => { results := [.lit (.bool true)], args := [d1, d2, d3] }
  | _ => none }
def gaugeEitherRow : OpenClaim := { program := "ytlkcfohmoeadbaa", sum := "65ba7b04204046d48e8c36532ffef502d9dc57ecbec1fd6248d343a54cd41852", func := "conjoin/conjoinlaw01.GaugeEither", spec := "gaugeEither", unfollowed := true, recurses := true, apart := false }
def GaugeEitherSaid : Prop := gaugeEitherRow.holds Try.pinned (OpenSpec.ofChange gaugeEitherSpec)

/-- ITS FALSE NEIGHBOUR: 'it returns false'. Refute it at one input. -/
def gaugeEitherWrong : ChangeSpec := { name := "gaugeEither", fn := fun _ => fun
  | [d1, d2, d3] => { results := [.lit (.bool false)], args := [d1, d2, d3] }
  | _ => none }
def GaugeEitherWrongFalsely : Prop := gaugeEitherRow.holds Try.pinned (OpenSpec.ofChange gaugeEitherWrong)

/- THE SECOND FORM. 'bulk': how many values and letters a reading holds, each counted each time it is reached (what is shared counts as often as it is met; a slice's spare places count too). A statement '..UptoSaid' is the law's where the arguments, and the package variables that the reading takes, are together of bulk at most 1048576: NARROWER than '..Said'. Prove '..Said' where nothing that the law and all that it calls make is longer than what came in: it says more and counts as full. Else prove '..UptoSaid'. A law counts once. -/
mutual
def uptoBulk {H : Type} : DataW H → Nat
  | .lit (.string bytes) => bytes.length + 1
  | .lit _ => 1
  | .nil => 1
  | .ptr d => uptoBulk d + 1
  | .slice elems spare => uptoBulkAll elems + uptoBulkAll spare + 1
  | .agg parts => uptoBulkAll parts + 1
  | .iface _ d => uptoBulk d + 1
  | .map entries => uptoBulkEntries entries + 1
  | .held _ => 1
def uptoBulkAll {H : Type} : List (DataW H) → Nat
  | [] => 0
  | d :: r => uptoBulk d + uptoBulkAll r
def uptoBulkEntries {H : Type} : List (Lit × DataW H) → Nat
  | [] => 0
  | x :: r => uptoBulkEntry x + uptoBulkEntries r
def uptoBulkEntry {H : Type} : Lit × DataW H → Nat
  | (.string bytes, d) => bytes.length + uptoBulk d + 1
  | (_, d) => uptoBulk d + 1
 end
def uptoSmall : (H : Type) → List (DataW H) → Bool := fun _ ds => decide (uptoBulkAll ds ≤ 1048576)
def OpenSpec.upto (s : _root_.Go.ChangeSpec) : _root_.Go.OpenSpec := { _root_.Go.OpenSpec.ofChange s with cond := some uptoSmall }

/-- 'conjoinlaw01.GaugeSolves', WHERE WHAT IT READS IS OF BULK AT MOST 1048576: true; the input reads as it did. -/
def gaugeSolvesUptoRow : OpenClaim := { program := "ytlkcfohmoeadbaa", sum := "65ba7b04204046d48e8c36532ffef502d9dc57ecbec1fd6248d343a54cd41852", func := "conjoin/conjoinlaw01.GaugeSolves", spec := "gaugeSolves", unfollowed := true, recurses := true, apart := false, narrowed := true }
def GaugeSolvesUptoSaid : Prop := gaugeSolvesUptoRow.holds Try.pinned (OpenSpec.upto gaugeSolvesSpec)

/-- 'conjoinlaw01.GaugeAttains', WHERE WHAT IT READS IS OF BULK AT MOST 1048576: true; the input reads as it did. -/
def gaugeAttainsUptoRow : OpenClaim := { program := "ytlkcfohmoeadbaa", sum := "65ba7b04204046d48e8c36532ffef502d9dc57ecbec1fd6248d343a54cd41852", func := "conjoin/conjoinlaw01.GaugeAttains", spec := "gaugeAttains", unfollowed := true, recurses := true, apart := false, narrowed := true }
def GaugeAttainsUptoSaid : Prop := gaugeAttainsUptoRow.holds Try.pinned (OpenSpec.upto gaugeAttainsSpec)

/-- 'conjoinlaw01.GaugeRests', WHERE WHAT IT READS IS OF BULK AT MOST 1048576: true; the input reads as it did. -/
def gaugeRestsUptoRow : OpenClaim := { program := "ytlkcfohmoeadbaa", sum := "65ba7b04204046d48e8c36532ffef502d9dc57ecbec1fd6248d343a54cd41852", func := "conjoin/conjoinlaw01.GaugeRests", spec := "gaugeRests", unfollowed := true, recurses := true, apart := false, narrowed := true }
def GaugeRestsUptoSaid : Prop := gaugeRestsUptoRow.holds Try.pinned (OpenSpec.upto gaugeRestsSpec)

/-- 'conjoinlaw01.GaugeChanged', WHERE WHAT IT READS IS OF BULK AT MOST 1048576: true; the input reads as it did. -/
def gaugeChangedUptoRow : OpenClaim := { program := "ytlkcfohmoeadbaa", sum := "65ba7b04204046d48e8c36532ffef502d9dc57ecbec1fd6248d343a54cd41852", func := "conjoin/conjoinlaw01.GaugeChanged", spec := "gaugeChanged", unfollowed := true, recurses := true, apart := false, narrowed := true }
def GaugeChangedUptoSaid : Prop := gaugeChangedUptoRow.holds Try.pinned (OpenSpec.upto gaugeChangedSpec)

/-- 'conjoinlaw01.GaugeTriangles', WHERE WHAT IT READS IS OF BULK AT MOST 1048576: true; the input reads as it did. -/
def gaugeTrianglesUptoRow : OpenClaim := { program := "ytlkcfohmoeadbaa", sum := "65ba7b04204046d48e8c36532ffef502d9dc57ecbec1fd6248d343a54cd41852", func := "conjoin/conjoinlaw01.GaugeTriangles", spec := "gaugeTriangles", unfollowed := true, recurses := true, apart := false, narrowed := true }
def GaugeTrianglesUptoSaid : Prop := gaugeTrianglesUptoRow.holds Try.pinned (OpenSpec.upto gaugeTrianglesSpec)

/-- 'conjoinlaw01.GaugeEnds', WHERE WHAT IT READS IS OF BULK AT MOST 1048576: true; the input reads as it did. -/
def gaugeEndsUptoRow : OpenClaim := { program := "ytlkcfohmoeadbaa", sum := "65ba7b04204046d48e8c36532ffef502d9dc57ecbec1fd6248d343a54cd41852", func := "conjoin/conjoinlaw01.GaugeEnds", spec := "gaugeEnds", unfollowed := true, recurses := true, apart := false, narrowed := true }
def GaugeEndsUptoSaid : Prop := gaugeEndsUptoRow.holds Try.pinned (OpenSpec.upto gaugeEndsSpec)

/-- 'conjoinlaw01.GaugeRigid', WHERE WHAT IT READS IS OF BULK AT MOST 1048576: true; the input reads as it did. -/
def gaugeRigidUptoRow : OpenClaim := { program := "ytlkcfohmoeadbaa", sum := "65ba7b04204046d48e8c36532ffef502d9dc57ecbec1fd6248d343a54cd41852", func := "conjoin/conjoinlaw01.GaugeRigid", spec := "gaugeRigid", unfollowed := true, recurses := true, apart := false, narrowed := true }
def GaugeRigidUptoSaid : Prop := gaugeRigidUptoRow.holds Try.pinned (OpenSpec.upto gaugeRigidSpec)

/-- 'conjoinlaw01.GaugeMore', WHERE WHAT IT READS IS OF BULK AT MOST 1048576: true; the input reads as it did. -/
def gaugeMoreUptoRow : OpenClaim := { program := "ytlkcfohmoeadbaa", sum := "65ba7b04204046d48e8c36532ffef502d9dc57ecbec1fd6248d343a54cd41852", func := "conjoin/conjoinlaw01.GaugeMore", spec := "gaugeMore", unfollowed := true, recurses := true, apart := false, narrowed := true }
def GaugeMoreUptoSaid : Prop := gaugeMoreUptoRow.holds Try.pinned (OpenSpec.upto gaugeMoreSpec)

/-- 'conjoinlaw01.GaugeMemory', WHERE WHAT IT READS IS OF BULK AT MOST 1048576: true; the input reads as it did. -/
def gaugeMemoryUptoRow : OpenClaim := { program := "ytlkcfohmoeadbaa", sum := "65ba7b04204046d48e8c36532ffef502d9dc57ecbec1fd6248d343a54cd41852", func := "conjoin/conjoinlaw01.GaugeMemory", spec := "gaugeMemory", unfollowed := true, recurses := true, apart := false, narrowed := true }
def GaugeMemoryUptoSaid : Prop := gaugeMemoryUptoRow.holds Try.pinned (OpenSpec.upto gaugeMemorySpec)

/-- 'conjoinlaw01.GaugeHighest', WHERE WHAT IT READS IS OF BULK AT MOST 1048576: true; the input reads as it did. -/
def gaugeHighestUptoRow : OpenClaim := { program := "ytlkcfohmoeadbaa", sum := "65ba7b04204046d48e8c36532ffef502d9dc57ecbec1fd6248d343a54cd41852", func := "conjoin/conjoinlaw01.GaugeHighest", spec := "gaugeHighest", unfollowed := true, recurses := true, apart := false, narrowed := true }
def GaugeHighestUptoSaid : Prop := gaugeHighestUptoRow.holds Try.pinned (OpenSpec.upto gaugeHighestSpec)

/-- 'conjoinlaw01.GaugeTies', WHERE WHAT IT READS IS OF BULK AT MOST 1048576: true; the input reads as it did. -/
def gaugeTiesUptoRow : OpenClaim := { program := "ytlkcfohmoeadbaa", sum := "65ba7b04204046d48e8c36532ffef502d9dc57ecbec1fd6248d343a54cd41852", func := "conjoin/conjoinlaw01.GaugeTies", spec := "gaugeTies", unfollowed := true, recurses := true, apart := false, narrowed := true }
def GaugeTiesUptoSaid : Prop := gaugeTiesUptoRow.holds Try.pinned (OpenSpec.upto gaugeTiesSpec)

/-- 'conjoinlaw01.GaugeMinimal', WHERE WHAT IT READS IS OF BULK AT MOST 1048576: true; the input reads as it did. -/
def gaugeMinimalUptoRow : OpenClaim := { program := "ytlkcfohmoeadbaa", sum := "65ba7b04204046d48e8c36532ffef502d9dc57ecbec1fd6248d343a54cd41852", func := "conjoin/conjoinlaw01.GaugeMinimal", spec := "gaugeMinimal", unfollowed := true, recurses := true, apart := false, narrowed := true }
def GaugeMinimalUptoSaid : Prop := gaugeMinimalUptoRow.holds Try.pinned (OpenSpec.upto gaugeMinimalSpec)

/-- 'conjoinlaw01.GaugeCircles', WHERE WHAT IT READS IS OF BULK AT MOST 1048576: true; the input reads as it did. -/
def gaugeCirclesUptoRow : OpenClaim := { program := "ytlkcfohmoeadbaa", sum := "65ba7b04204046d48e8c36532ffef502d9dc57ecbec1fd6248d343a54cd41852", func := "conjoin/conjoinlaw01.GaugeCircles", spec := "gaugeCircles", unfollowed := true, recurses := true, apart := false, narrowed := true }
def GaugeCirclesUptoSaid : Prop := gaugeCirclesUptoRow.holds Try.pinned (OpenSpec.upto gaugeCirclesSpec)

/-- 'conjoinlaw01.GaugeBeside', WHERE WHAT IT READS IS OF BULK AT MOST 1048576: true; the input reads as it did. -/
def gaugeBesideUptoRow : OpenClaim := { program := "ytlkcfohmoeadbaa", sum := "65ba7b04204046d48e8c36532ffef502d9dc57ecbec1fd6248d343a54cd41852", func := "conjoin/conjoinlaw01.GaugeBeside", spec := "gaugeBeside", unfollowed := true, recurses := true, apart := false, narrowed := true }
def GaugeBesideUptoSaid : Prop := gaugeBesideUptoRow.holds Try.pinned (OpenSpec.upto gaugeBesideSpec)

/-- 'conjoinlaw01.GaugePaths', WHERE WHAT IT READS IS OF BULK AT MOST 1048576: true; the input reads as it did. -/
def gaugePathsUptoRow : OpenClaim := { program := "ytlkcfohmoeadbaa", sum := "65ba7b04204046d48e8c36532ffef502d9dc57ecbec1fd6248d343a54cd41852", func := "conjoin/conjoinlaw01.GaugePaths", spec := "gaugePaths", unfollowed := true, recurses := true, apart := false, narrowed := true }
def GaugePathsUptoSaid : Prop := gaugePathsUptoRow.holds Try.pinned (OpenSpec.upto gaugePathsSpec)

/-- 'conjoinlaw01.GaugeSharp', WHERE WHAT IT READS IS OF BULK AT MOST 1048576: true; the input reads as it did. -/
def gaugeSharpUptoRow : OpenClaim := { program := "ytlkcfohmoeadbaa", sum := "65ba7b04204046d48e8c36532ffef502d9dc57ecbec1fd6248d343a54cd41852", func := "conjoin/conjoinlaw01.GaugeSharp", spec := "gaugeSharp", unfollowed := true, recurses := true, apart := false, narrowed := true }
def GaugeSharpUptoSaid : Prop := gaugeSharpUptoRow.holds Try.pinned (OpenSpec.upto gaugeSharpSpec)

/-- 'conjoinlaw01.GaugeEither', WHERE WHAT IT READS IS OF BULK AT MOST 1048576: true; the input reads as it did. -/
def gaugeEitherUptoRow : OpenClaim := { program := "ytlkcfohmoeadbaa", sum := "65ba7b04204046d48e8c36532ffef502d9dc57ecbec1fd6248d343a54cd41852", func := "conjoin/conjoinlaw01.GaugeEither", spec := "gaugeEither", unfollowed := true, recurses := true, apart := false, narrowed := true }
def GaugeEitherUptoSaid : Prop := gaugeEitherUptoRow.holds Try.pinned (OpenSpec.upto gaugeEitherSpec)

end Rows
end Go.Proofs.Ytlkcfohmoeadbaa
