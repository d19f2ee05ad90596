/-
  No cell of these rows narrows 'for every input' (looked for: loops, veiled, ifaces, maps, wideKeys, modest, calm, conditions, laid).
  DERIVED. THE GIVEN ROWS OF THIS SEAT. 13 by the template 'for every input the law returns true; each argument reads behind the call as it read before'; 0 by the template 'total and deterministic' (their statements: YtodkbfbbpfghiaaGreatTotals.lean).
  GIVEN WITH THE SEED: the statements are not yours to turn. If you find one false, say at which input.
  Laid BY PROGRAM, IN A SANDBOX (cutbox-rows.mjs): the forced cells as the released guide's own fill.sh prints them over the translation 971a82537d28205b… (all of the seat's roots in one cut). By AI agents, Wed Nov 11 2026. No macro, syntax, notation, axiom, sorry.
-/
import Derived.Test.YtodkbfbbpfghiaaGreatChecked
import GoSem.Claim
import GoSem.ClaimJoined
import GoSem.ClaimMapViews
import Derived.JoinedTies
import Derived.KernelRfl
namespace Go.Proofs.YtodkbfbbpfghiaaGreat
/- THE CELL 'sum', in the pinned program and in every row, IS THE sha256 OF THE DUMP (.gsa) THAT YtodkbfbbpfghiaaGreatProg.lean LOADS. Nothing in Lean hashes anything: it is a label: what it is worth is what the hold of that sum in a sandbox is worth. -/
noncomputable def Tryz.pinned : Pinned := { name := "ytodkbfbbpfghiaagreat", sum := "971a82537d28205b9f31a489821ff1f1318f0c035cd08c449f14dc415a28b019", checked := Tryz.checked }
namespace Rows
def none {H : Type} : Left H := { results := [], args := [] }

/-- 'conjoinlaw06.WholeMerges': WHATEVER THE INPUT: true; the input reads as it did. -/
def wholeMergesSpec : ChangeSpec := { name := "wholeMerges", fn := fun _ => fun
  | [d1, d2, d3] => { results := [.lit (.bool true)], args := [d1, d2, d3] }
  | _ => none }
def wholeMergesRow : OpenClaim := { program := "ytodkbfbbpfghiaagreat", sum := "971a82537d28205b9f31a489821ff1f1318f0c035cd08c449f14dc415a28b019", func := "conjoin/conjoinlaw06.WholeMerges", spec := "wholeMerges", inPlace := ["slices.overlaps[int]"], unfollowed := true, recurses := true, plainKeys := false, apart := false }
def WholeMergesSaid : Prop := wholeMergesRow.holds Tryz.pinned (OpenSpec.ofChange wholeMergesSpec)

/-- ITS FALSE NEIGHBOUR: 'it returns false'. Refute it at one input. -/
def wholeMergesWrong : ChangeSpec := { name := "wholeMerges", fn := fun _ => fun
  | [d1, d2, d3] => { results := [.lit (.bool false)], args := [d1, d2, d3] }
  | _ => none }
def WholeMergesWrongFalsely : Prop := wholeMergesRow.holds Tryz.pinned (OpenSpec.ofChange wholeMergesWrong)

/-- 'conjoinlaw06.WholeDemands': WHATEVER THE INPUT: true; the input reads as it did. -/
def wholeDemandsSpec : ChangeSpec := { name := "wholeDemands", fn := fun _ => fun
  | [d1, d2, d3, d4, d5] => { results := [.lit (.bool true)], args := [d1, d2, d3, d4, d5] }
  | _ => none }
def wholeDemandsRow : OpenClaim := { program := "ytodkbfbbpfghiaagreat", sum := "971a82537d28205b9f31a489821ff1f1318f0c035cd08c449f14dc415a28b019", func := "conjoin/conjoinlaw06.WholeDemands", spec := "wholeDemands", inPlace := ["slices.overlaps[int]"], unfollowed := true, recurses := true, plainKeys := false, apart := false }
def WholeDemandsSaid : Prop := wholeDemandsRow.holds Tryz.pinned (OpenSpec.ofChange wholeDemandsSpec)

/-- ITS FALSE NEIGHBOUR: 'it returns false'. Refute it at one input. -/
def wholeDemandsWrong : ChangeSpec := { name := "wholeDemands", fn := fun _ => fun
  | [d1, d2, d3, d4, d5] => { results := [.lit (.bool false)], args := [d1, d2, d3, d4, d5] }
  | _ => none }
def WholeDemandsWrongFalsely : Prop := wholeDemandsRow.holds Tryz.pinned (OpenSpec.ofChange wholeDemandsWrong)

/-- 'conjoinlaw06.WholeCritical': WHATEVER THE INPUT: true; the input reads as it did. -/
def wholeCriticalSpec : ChangeSpec := { name := "wholeCritical", fn := fun _ => fun
  | [d] => { results := [.lit (.bool true)], args := [d] }
  | _ => none }
def wholeCriticalRow : OpenClaim := { program := "ytodkbfbbpfghiaagreat", sum := "971a82537d28205b9f31a489821ff1f1318f0c035cd08c449f14dc415a28b019", func := "conjoin/conjoinlaw06.WholeCritical", spec := "wholeCritical", inPlace := ["slices.overlaps[int]"], unfollowed := true, recurses := true, plainKeys := false, apart := false }
def WholeCriticalSaid : Prop := wholeCriticalRow.holds Tryz.pinned (OpenSpec.ofChange wholeCriticalSpec)

/-- ITS FALSE NEIGHBOUR: 'it returns false'. Refute it at one input. -/
def wholeCriticalWrong : ChangeSpec := { name := "wholeCritical", fn := fun _ => fun
  | [d] => { results := [.lit (.bool false)], args := [d] }
  | _ => none }
def WholeCriticalWrongFalsely : Prop := wholeCriticalRow.holds Tryz.pinned (OpenSpec.ofChange wholeCriticalWrong)

/-- 'conjoinlaw06.WholeOrder': WHATEVER THE INPUT: true; the input reads as it did. -/
def wholeOrderSpec : ChangeSpec := { name := "wholeOrder", fn := fun _ => fun
  | [d1, d2] => { results := [.lit (.bool true)], args := [d1, d2] }
  | _ => none }
def wholeOrderRow : OpenClaim := { program := "ytodkbfbbpfghiaagreat", sum := "971a82537d28205b9f31a489821ff1f1318f0c035cd08c449f14dc415a28b019", func := "conjoin/conjoinlaw06.WholeOrder", spec := "wholeOrder", inPlace := ["slices.overlaps[int]"], unfollowed := true, recurses := true, plainKeys := false, apart := false }
def WholeOrderSaid : Prop := wholeOrderRow.holds Tryz.pinned (OpenSpec.ofChange wholeOrderSpec)

/-- ITS FALSE NEIGHBOUR: 'it returns false'. Refute it at one input. -/
def wholeOrderWrong : ChangeSpec := { name := "wholeOrder", fn := fun _ => fun
  | [d1, d2] => { results := [.lit (.bool false)], args := [d1, d2] }
  | _ => none }
def WholeOrderWrongFalsely : Prop := wholeOrderRow.holds Tryz.pinned (OpenSpec.ofChange wholeOrderWrong)

/-- 'conjoinlaw06.WholeTried': WHATEVER THE INPUT: true; the input reads as it did. -/
def wholeTriedSpec : ChangeSpec := { name := "wholeTried", fn := fun _ => fun
  | [d] => { results := [.lit (.bool true)], args := [d] }
  | _ => none }
def wholeTriedRow : OpenClaim := { program := "ytodkbfbbpfghiaagreat", sum := "971a82537d28205b9f31a489821ff1f1318f0c035cd08c449f14dc415a28b019", func := "conjoin/conjoinlaw06.WholeTried", spec := "wholeTried", inPlace := ["slices.overlaps[int]"], unfollowed := true, recurses := true, plainKeys := false, apart := false }
def WholeTriedSaid : Prop := wholeTriedRow.holds Tryz.pinned (OpenSpec.ofChange wholeTriedSpec)

/-- ITS FALSE NEIGHBOUR: 'it returns false'. Refute it at one input. -/
def wholeTriedWrong : ChangeSpec := { name := "wholeTried", fn := fun _ => fun
  | [d] => { results := [.lit (.bool false)], args := [d] }
  | _ => none }
def WholeTriedWrongFalsely : Prop := wholeTriedRow.holds Tryz.pinned (OpenSpec.ofChange wholeTriedWrong)

/-- 'conjoinlaw06.WholeMerged': WHATEVER THE INPUT: true; the input reads as it did. -/
def wholeMergedSpec : ChangeSpec := { name := "wholeMerged", fn := fun _ => fun
  | [d1, d2, d3, d4] => { results := [.lit (.bool true)], args := [d1, d2, d3, d4] }
  | _ => none }
def wholeMergedRow : OpenClaim := { program := "ytodkbfbbpfghiaagreat", sum := "971a82537d28205b9f31a489821ff1f1318f0c035cd08c449f14dc415a28b019", func := "conjoin/conjoinlaw06.WholeMerged", spec := "wholeMerged", inPlace := ["slices.overlaps[int]"], unfollowed := true, recurses := true, plainKeys := false, apart := false }
def WholeMergedSaid : Prop := wholeMergedRow.holds Tryz.pinned (OpenSpec.ofChange wholeMergedSpec)

/-- ITS FALSE NEIGHBOUR: 'it returns false'. Refute it at one input. -/
def wholeMergedWrong : ChangeSpec := { name := "wholeMerged", fn := fun _ => fun
  | [d1, d2, d3, d4] => { results := [.lit (.bool false)], args := [d1, d2, d3, d4] }
  | _ => none }
def WholeMergedWrongFalsely : Prop := wholeMergedRow.holds Tryz.pinned (OpenSpec.ofChange wholeMergedWrong)

/-- 'conjoinlaw06.WholeJoints': WHATEVER THE INPUT: true; the input reads as it did. -/
def wholeJointsSpec : ChangeSpec := { name := "wholeJoints", fn := fun _ => fun
  | [d1, d2, d3, d4] => { results := [.lit (.bool true)], args := [d1, d2, d3, d4] }
  | _ => none }
def wholeJointsRow : OpenClaim := { program := "ytodkbfbbpfghiaagreat", sum := "971a82537d28205b9f31a489821ff1f1318f0c035cd08c449f14dc415a28b019", func := "conjoin/conjoinlaw06.WholeJoints", spec := "wholeJoints", inPlace := ["slices.overlaps[int]"], unfollowed := true, recurses := true, plainKeys := false, apart := false }
def WholeJointsSaid : Prop := wholeJointsRow.holds Tryz.pinned (OpenSpec.ofChange wholeJointsSpec)

/-- ITS FALSE NEIGHBOUR: 'it returns false'. Refute it at one input. -/
def wholeJointsWrong : ChangeSpec := { name := "wholeJoints", fn := fun _ => fun
  | [d1, d2, d3, d4] => { results := [.lit (.bool false)], args := [d1, d2, d3, d4] }
  | _ => none }
def WholeJointsWrongFalsely : Prop := wholeJointsRow.holds Tryz.pinned (OpenSpec.ofChange wholeJointsWrong)

/-- 'conjoinlaw06.WholeLeast': WHATEVER THE INPUT: true; the input reads as it did. -/
def wholeLeastSpec : ChangeSpec := { name := "wholeLeast", fn := fun _ => fun
  | [d] => { results := [.lit (.bool true)], args := [d] }
  | _ => none }
def wholeLeastRow : OpenClaim := { program := "ytodkbfbbpfghiaagreat", sum := "971a82537d28205b9f31a489821ff1f1318f0c035cd08c449f14dc415a28b019", func := "conjoin/conjoinlaw06.WholeLeast", spec := "wholeLeast", inPlace := ["slices.overlaps[int]"], unfollowed := true, recurses := true, plainKeys := false, apart := false }
def WholeLeastSaid : Prop := wholeLeastRow.holds Tryz.pinned (OpenSpec.ofChange wholeLeastSpec)

/-- ITS FALSE NEIGHBOUR: 'it returns false'. Refute it at one input. -/
def wholeLeastWrong : ChangeSpec := { name := "wholeLeast", fn := fun _ => fun
  | [d] => { results := [.lit (.bool false)], args := [d] }
  | _ => none }
def WholeLeastWrongFalsely : Prop := wholeLeastRow.holds Tryz.pinned (OpenSpec.ofChange wholeLeastWrong)

/-- 'conjoinlaw06.WholeFewer': WHATEVER THE INPUT: true; the input reads as it did. -/
def wholeFewerSpec : ChangeSpec := { name := "wholeFewer", fn := fun _ => fun
  | [d1, d2] => { results := [.lit (.bool true)], args := [d1, d2] }
  | _ => none }
def wholeFewerRow : OpenClaim := { program := "ytodkbfbbpfghiaagreat", sum := "971a82537d28205b9f31a489821ff1f1318f0c035cd08c449f14dc415a28b019", func := "conjoin/conjoinlaw06.WholeFewer", spec := "wholeFewer", inPlace := ["slices.overlaps[int]"], unfollowed := true, recurses := true, plainKeys := false, apart := false }
def WholeFewerSaid : Prop := wholeFewerRow.holds Tryz.pinned (OpenSpec.ofChange wholeFewerSpec)

/-- ITS FALSE NEIGHBOUR: 'it returns false'. Refute it at one input. -/
def wholeFewerWrong : ChangeSpec := { name := "wholeFewer", fn := fun _ => fun
  | [d1, d2] => { results := [.lit (.bool false)], args := [d1, d2] }
  | _ => none }
def WholeFewerWrongFalsely : Prop := wholeFewerRow.holds Tryz.pinned (OpenSpec.ofChange wholeFewerWrong)

/-- 'conjoinlaw06.WholeCommons': WHATEVER THE INPUT: true; the input reads as it did. -/
def wholeCommonsSpec : ChangeSpec := { name := "wholeCommons", fn := fun _ => fun
  | [d1, d2] => { results := [.lit (.bool true)], args := [d1, d2] }
  | _ => none }
def wholeCommonsRow : OpenClaim := { program := "ytodkbfbbpfghiaagreat", sum := "971a82537d28205b9f31a489821ff1f1318f0c035cd08c449f14dc415a28b019", func := "conjoin/conjoinlaw06.WholeCommons", spec := "wholeCommons", inPlace := ["slices.overlaps[int]"], unfollowed := true, recurses := true, plainKeys := false, apart := false }
def WholeCommonsSaid : Prop := wholeCommonsRow.holds Tryz.pinned (OpenSpec.ofChange wholeCommonsSpec)

/-- ITS FALSE NEIGHBOUR: 'it returns false'. Refute it at one input. -/
def wholeCommonsWrong : ChangeSpec := { name := "wholeCommons", fn := fun _ => fun
  | [d1, d2] => { results := [.lit (.bool false)], args := [d1, d2] }
  | _ => none }
def WholeCommonsWrongFalsely : Prop := wholeCommonsRow.holds Tryz.pinned (OpenSpec.ofChange wholeCommonsWrong)

/-- 'conjoinlaw06.WholeCases': WHATEVER THE INPUT: true; the input reads as it did. -/
def wholeCasesSpec : ChangeSpec := { name := "wholeCases", fn := fun _ => fun
  | [d1, d2, d3, d4, d5] => { results := [.lit (.bool true)], args := [d1, d2, d3, d4, d5] }
  | _ => none }
def wholeCasesRow : OpenClaim := { program := "ytodkbfbbpfghiaagreat", sum := "971a82537d28205b9f31a489821ff1f1318f0c035cd08c449f14dc415a28b019", func := "conjoin/conjoinlaw06.WholeCases", spec := "wholeCases", inPlace := ["slices.overlaps[int]"], unfollowed := true, recurses := true, plainKeys := false, apart := false }
def WholeCasesSaid : Prop := wholeCasesRow.holds Tryz.pinned (OpenSpec.ofChange wholeCasesSpec)

/-- ITS FALSE NEIGHBOUR: 'it returns false'. Refute it at one input. -/
def wholeCasesWrong : ChangeSpec := { name := "wholeCases", fn := fun _ => fun
  | [d1, d2, d3, d4, d5] => { results := [.lit (.bool false)], args := [d1, d2, d3, d4, d5] }
  | _ => none }
def WholeCasesWrongFalsely : Prop := wholeCasesRow.holds Tryz.pinned (OpenSpec.ofChange wholeCasesWrong)

/-- 'conjoinlaw06.WholeAssigns': WHATEVER THE INPUT: true; the input reads as it did. -/
def wholeAssignsSpec : ChangeSpec := { name := "wholeAssigns", fn := fun _ => fun
  | [d1, d2, d3] => { results := [.lit (.bool true)], args := [d1, d2, d3] }
  | _ => none }
def wholeAssignsRow : OpenClaim := { program := "ytodkbfbbpfghiaagreat", sum := "971a82537d28205b9f31a489821ff1f1318f0c035cd08c449f14dc415a28b019", func := "conjoin/conjoinlaw06.WholeAssigns", spec := "wholeAssigns", inPlace := ["slices.overlaps[int]"], unfollowed := true, recurses := true, plainKeys := false, apart := false }
def WholeAssignsSaid : Prop := wholeAssignsRow.holds Tryz.pinned (OpenSpec.ofChange wholeAssignsSpec)

/-- ITS FALSE NEIGHBOUR: 'it returns false'. Refute it at one input. -/
def wholeAssignsWrong : ChangeSpec := { name := "wholeAssigns", fn := fun _ => fun
  | [d1, d2, d3] => { results := [.lit (.bool false)], args := [d1, d2, d3] }
  | _ => none }
def WholeAssignsWrongFalsely : Prop := wholeAssignsRow.holds Tryz.pinned (OpenSpec.ofChange wholeAssignsWrong)

/-- 'conjoinlaw06.WholeDuality': WHATEVER THE INPUT: true; the input reads as it did. -/
def wholeDualitySpec : ChangeSpec := { name := "wholeDuality", fn := fun _ => fun
  | [d1, d2, d3, d4] => { results := [.lit (.bool true)], args := [d1, d2, d3, d4] }
  | _ => none }
def wholeDualityRow : OpenClaim := { program := "ytodkbfbbpfghiaagreat", sum := "971a82537d28205b9f31a489821ff1f1318f0c035cd08c449f14dc415a28b019", func := "conjoin/conjoinlaw06.WholeDuality", spec := "wholeDuality", inPlace := ["slices.overlaps[int]"], unfollowed := true, recurses := true, plainKeys := false, apart := false }
def WholeDualitySaid : Prop := wholeDualityRow.holds Tryz.pinned (OpenSpec.ofChange wholeDualitySpec)

/-- ITS FALSE NEIGHBOUR: 'it returns false'. Refute it at one input. -/
def wholeDualityWrong : ChangeSpec := { name := "wholeDuality", fn := fun _ => fun
  | [d1, d2, d3, d4] => { results := [.lit (.bool false)], args := [d1, d2, d3, d4] }
  | _ => none }
def WholeDualityWrongFalsely : Prop := wholeDualityRow.holds Tryz.pinned (OpenSpec.ofChange wholeDualityWrong)

/- THE SECOND FORM. 'bulk': how many values and letters a reading holds, each counted each time it is reached (what is shared counts as often as it is met; a slice's spare places count too). A statement '..UptoSaid' is the law's where the arguments, and the package variables that the reading takes, are together of bulk at most 1048576: NARROWER than '..Said'. Prove '..Said' where nothing that the law and all that it calls make is longer than what came in: it says more and counts as full. Else prove '..UptoSaid'. A law counts once. -/
mutual
def uptoBulk {H : Type} : DataW H → Nat
  | .lit (.string bytes) => bytes.length + 1
  | .lit _ => 1
  | .nil => 1
  | .ptr d => uptoBulk d + 1
  | .slice elems spare => uptoBulkAll elems + uptoBulkAll spare + 1
  | .agg parts => uptoBulkAll parts + 1
  | .iface _ d => uptoBulk d + 1
  | .map entries => uptoBulkEntries entries + 1
  | .held _ => 1
def uptoBulkAll {H : Type} : List (DataW H) → Nat
  | [] => 0
  | d :: r => uptoBulk d + uptoBulkAll r
def uptoBulkEntries {H : Type} : List (Lit × DataW H) → Nat
  | [] => 0
  | x :: r => uptoBulkEntry x + uptoBulkEntries r
def uptoBulkEntry {H : Type} : Lit × DataW H → Nat
  | (.string bytes, d) => bytes.length + uptoBulk d + 1
  | (_, d) => uptoBulk d + 1
 end
def uptoSmall : (H : Type) → List (DataW H) → Bool := fun _ ds => decide (uptoBulkAll ds ≤ 1048576)
def OpenSpec.upto (s : _root_.Go.ChangeSpec) : _root_.Go.OpenSpec := { _root_.Go.OpenSpec.ofChange s with cond := some uptoSmall }

/-- 'conjoinlaw06.WholeMerges', WHERE WHAT IT READS IS OF BULK AT MOST 1048576: true; the input reads as it did. -/
def wholeMergesUptoRow : OpenClaim := { program := "ytodkbfbbpfghiaagreat", sum := "971a82537d28205b9f31a489821ff1f1318f0c035cd08c449f14dc415a28b019", func := "conjoin/conjoinlaw06.WholeMerges", spec := "wholeMerges", inPlace := ["slices.overlaps[int]"], unfollowed := true, recurses := true, plainKeys := false, apart := false, narrowed := true }
def WholeMergesUptoSaid : Prop := wholeMergesUptoRow.holds Tryz.pinned (OpenSpec.upto wholeMergesSpec)

/-- 'conjoinlaw06.WholeDemands', WHERE WHAT IT READS IS OF BULK AT MOST 1048576: true; the input reads as it did. -/
def wholeDemandsUptoRow : OpenClaim := { program := "ytodkbfbbpfghiaagreat", sum := "971a82537d28205b9f31a489821ff1f1318f0c035cd08c449f14dc415a28b019", func := "conjoin/conjoinlaw06.WholeDemands", spec := "wholeDemands", inPlace := ["slices.overlaps[int]"], unfollowed := true, recurses := true, plainKeys := false, apart := false, narrowed := true }
def WholeDemandsUptoSaid : Prop := wholeDemandsUptoRow.holds Tryz.pinned (OpenSpec.upto wholeDemandsSpec)

/-- 'conjoinlaw06.WholeCritical', WHERE WHAT IT READS IS OF BULK AT MOST 1048576: true; the input reads as it did. -/
def wholeCriticalUptoRow : OpenClaim := { program := "ytodkbfbbpfghiaagreat", sum := "971a82537d28205b9f31a489821ff1f1318f0c035cd08c449f14dc415a28b019", func := "conjoin/conjoinlaw06.WholeCritical", spec := "wholeCritical", inPlace := ["slices.overlaps[int]"], unfollowed := true, recurses := true, plainKeys := false, apart := false, narrowed := true }
def WholeCriticalUptoSaid : Prop := wholeCriticalUptoRow.holds Tryz.pinned (OpenSpec.upto wholeCriticalSpec)

/-- 'conjoinlaw06.WholeOrder', WHERE WHAT IT READS IS OF BULK AT MOST 1048576: true; the input reads as it did. -/
def wholeOrderUptoRow : OpenClaim := { program := "ytodkbfbbpfghiaagreat", sum := "971a82537d28205b9f31a489821ff1f1318f0c035cd08c449f14dc415a28b019", func := "conjoin/conjoinlaw06.WholeOrder", spec := "wholeOrder", inPlace := ["slices.overlaps[int]"], unfollowed := true, recurses := true, plainKeys := false, apart := false, narrowed := true }
def WholeOrderUptoSaid : Prop := wholeOrderUptoRow.holds Tryz.pinned (OpenSpec.upto wholeOrderSpec)

/-- 'conjoinlaw06.WholeTried', WHERE WHAT IT READS IS OF BULK AT MOST 1048576: true; the input reads as it did. -/
def wholeTriedUptoRow : OpenClaim := { program := "ytodkbfbbpfghiaagreat", sum := "971a82537d28205b9f31a489821ff1f1318f0c035cd08c449f14dc415a28b019", func := "conjoin/conjoinlaw06.WholeTried", spec := "wholeTried", inPlace := ["slices.overlaps[int]"], unfollowed := true, recurses := true, plainKeys := false, apart := false, narrowed := true }
def WholeTriedUptoSaid : Prop := wholeTriedUptoRow.holds Tryz.pinned (OpenSpec.upto wholeTriedSpec)

/-- 'conjoinlaw06.WholeMerged', WHERE WHAT IT READS IS OF BULK AT MOST 1048576: true; the input reads as it did. -/
def wholeMergedUptoRow : OpenClaim := { program := "ytodkbfbbpfghiaagreat", sum := "971a82537d28205b9f31a489821ff1f1318f0c035cd08c449f14dc415a28b019", func := "conjoin/conjoinlaw06.WholeMerged", spec := "wholeMerged", inPlace := ["slices.overlaps[int]"], unfollowed := true, recurses := true, plainKeys := false, apart := false, narrowed := true }
def WholeMergedUptoSaid : Prop := wholeMergedUptoRow.holds Tryz.pinned (OpenSpec.upto wholeMergedSpec)

/-- 'conjoinlaw06.WholeJoints', WHERE WHAT IT READS IS OF BULK AT MOST 1048576: true; the input reads as it did. -/
def wholeJointsUptoRow : OpenClaim := { program := "ytodkbfbbpfghiaagreat", sum := "971a82537d28205b9f31a489821ff1f1318f0c035cd08c449f14dc415a28b019", func := "conjoin/conjoinlaw06.WholeJoints", spec := "wholeJoints", inPlace := ["slices.overlaps[int]"], unfollowed := true, recurses := true, plainKeys := false, apart := false, narrowed := true }
def WholeJointsUptoSaid : Prop := wholeJointsUptoRow.holds Tryz.pinned (OpenSpec.upto wholeJointsSpec)

/-- 'conjoinlaw06.WholeLeast', WHERE WHAT IT READS IS OF BULK AT MOST 1048576: true; the input reads as it did. -/
def wholeLeastUptoRow : OpenClaim := { program := "ytodkbfbbpfghiaagreat", sum := "971a82537d28205b9f31a489821ff1f1318f0c035cd08c449f14dc415a28b019", func := "conjoin/conjoinlaw06.WholeLeast", spec := "wholeLeast", inPlace := ["slices.overlaps[int]"], unfollowed := true, recurses := true, plainKeys := false, apart := false, narrowed := true }
def WholeLeastUptoSaid : Prop := wholeLeastUptoRow.holds Tryz.pinned (OpenSpec.upto wholeLeastSpec)

/-- 'conjoinlaw06.WholeFewer', WHERE WHAT IT READS IS OF BULK AT MOST 1048576: true; the input reads as it did. -/
def wholeFewerUptoRow : OpenClaim := { program := "ytodkbfbbpfghiaagreat", sum := "971a82537d28205b9f31a489821ff1f1318f0c035cd08c449f14dc415a28b019", func := "conjoin/conjoinlaw06.WholeFewer", spec := "wholeFewer", inPlace := ["slices.overlaps[int]"], unfollowed := true, recurses := true, plainKeys := false, apart := false, narrowed := true }
def WholeFewerUptoSaid : Prop := wholeFewerUptoRow.holds Tryz.pinned (OpenSpec.upto wholeFewerSpec)

/-- 'conjoinlaw06.WholeCommons', WHERE WHAT IT READS IS OF BULK AT MOST 1048576: true; the input reads as it did. -/
def wholeCommonsUptoRow : OpenClaim := { program := "ytodkbfbbpfghiaagreat", sum := "971a82537d28205b9f31a489821ff1f1318f0c035cd08c449f14dc415a28b019", func := "conjoin/conjoinlaw06.WholeCommons", spec := "wholeCommons", inPlace := ["slices.overlaps[int]"], unfollowed := true, recurses := true, plainKeys := false, apart := false, narrowed := true }
def WholeCommonsUptoSaid : Prop := wholeCommonsUptoRow.holds Tryz.pinned (OpenSpec.upto wholeCommonsSpec)

/-- 'conjoinlaw06.WholeCases', WHERE WHAT IT READS IS OF BULK AT MOST 1048576: true; the input reads as it did. -/
def wholeCasesUptoRow : OpenClaim := { program := "ytodkbfbbpfghiaagreat", sum := "971a82537d28205b9f31a489821ff1f1318f0c035cd08c449f14dc415a28b019", func := "conjoin/conjoinlaw06.WholeCases", spec := "wholeCases", inPlace := ["slices.overlaps[int]"], unfollowed := true, recurses := true, plainKeys := false, apart := false, narrowed := true }
def WholeCasesUptoSaid : Prop := wholeCasesUptoRow.holds Tryz.pinned (OpenSpec.upto wholeCasesSpec)

/-- 'conjoinlaw06.WholeAssigns', WHERE WHAT IT READS IS OF BULK AT MOST 1048576: true; the input reads as it did. -/
def wholeAssignsUptoRow : OpenClaim := { program := "ytodkbfbbpfghiaagreat", sum := "971a82537d28205b9f31a489821ff1f1318f0c035cd08c449f14dc415a28b019", func := "conjoin/conjoinlaw06.WholeAssigns", spec := "wholeAssigns", inPlace := ["slices.overlaps[int]"], unfollowed := true, recurses := true, plainKeys := false, apart := false, narrowed := true }
def WholeAssignsUptoSaid : Prop := wholeAssignsUptoRow.holds Tryz.pinned (OpenSpec.upto wholeAssignsSpec)

/-- 'conjoinlaw06.WholeDuality', WHERE WHAT IT READS IS OF BULK AT MOST 1048576: true; the input reads as it did. -/
def wholeDualityUptoRow : OpenClaim := { program := "ytodkbfbbpfghiaagreat", sum := "971a82537d28205b9f31a489821ff1f1318f0c035cd08c449f14dc415a28b019", func := "conjoin/conjoinlaw06.WholeDuality", spec := "wholeDuality", inPlace := ["slices.overlaps[int]"], unfollowed := true, recurses := true, plainKeys := false, apart := false, narrowed := true }
def WholeDualityUptoSaid : Prop := wholeDualityUptoRow.holds Tryz.pinned (OpenSpec.upto wholeDualitySpec)

end Rows
end Go.Proofs.YtodkbfbbpfghiaaGreat
