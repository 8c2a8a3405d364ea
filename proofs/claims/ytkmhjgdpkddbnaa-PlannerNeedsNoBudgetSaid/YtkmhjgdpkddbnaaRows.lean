/-
  No cell of these rows narrows 'for every input' (looked for: loops, veiled, ifaces, maps, wideKeys, modest, calm, conditions, laid).
  DERIVED. THE GIVEN ROWS OF THIS SEAT. 5 by the template 'for every input the law returns true; each argument reads behind the call as it read before'; 0 by the template 'total and deterministic' (their statements: YtkmhjgdpkddbnaaTotals.lean).
  GIVEN WITH THE SEED: the statements are not yours to turn. If you find one false, say at which input.
  Laid BY PROGRAM, IN A SANDBOX (cutbox-rows.mjs): the forced cells as the released guide's own fill.sh prints them over the translation 7c58249208ac6a44… (all of the seat's roots in one cut). By AI agents, Wed Nov 11 2026. No macro, syntax, notation, axiom, sorry.
-/
import Derived.Test.YtkmhjgdpkddbnaaChecked
import GoSem.Claim
import GoSem.ClaimJoined
import GoSem.ClaimMapViews
import Derived.JoinedTies
import Derived.KernelRfl
namespace Go.Proofs.Ytkmhjgdpkddbnaa
/- THE CELL 'sum', in the pinned program and in every row, IS THE sha256 OF THE DUMP (.gsa) THAT YtkmhjgdpkddbnaaProg.lean LOADS. Nothing in Lean hashes anything: it is a label: what it is worth is what the hold of that sum in a sandbox is worth. -/
noncomputable def Try.pinned : Pinned := { name := "ytkmhjgdpkddbnaa", sum := "7c58249208ac6a4477b54d9df7d1f9bf316880ea9b1345d913bb5434c14c7bc6", checked := Try.checked }
namespace Rows
def none {H : Type} : Left H := { results := [], args := [] }

/-- 'voxellaw43.PlannerMatchesSpec': WHATEVER THE INPUT: true; the input reads as it did. -/
def plannerMatchesSpecSpec : ChangeSpec := { name := "plannerMatchesSpec", fn := fun _ => fun
  | [d1, d2, d3] => { results := [.lit (.bool true)], args := [d1, d2, d3] }
  | _ => none }
def plannerMatchesSpecRow : OpenClaim := { program := "ytkmhjgdpkddbnaa", sum := "7c58249208ac6a4477b54d9df7d1f9bf316880ea9b1345d913bb5434c14c7bc6", func := "voxel/voxellaw43.PlannerMatchesSpec", spec := "plannerMatchesSpec", unfollowed := true, recurses := true, plainKeys := false, apart := false }
def PlannerMatchesSpecSaid : Prop := plannerMatchesSpecRow.holds Try.pinned (OpenSpec.ofChange plannerMatchesSpecSpec)

/-- ITS FALSE NEIGHBOUR: 'it returns false'. Refute it at one input. -/
def plannerMatchesSpecWrong : ChangeSpec := { name := "plannerMatchesSpec", fn := fun _ => fun
  | [d1, d2, d3] => { results := [.lit (.bool false)], args := [d1, d2, d3] }
  | _ => none }
def PlannerMatchesSpecWrongFalsely : Prop := plannerMatchesSpecRow.holds Try.pinned (OpenSpec.ofChange plannerMatchesSpecWrong)

/-- 'voxellaw43.PlannerAddsAsSpecified': WHATEVER THE INPUT: true; the input reads as it did. -/
def plannerAddsAsSpecifiedSpec : ChangeSpec := { name := "plannerAddsAsSpecified", fn := fun _ => fun
  | [d1, d2] => { results := [.lit (.bool true)], args := [d1, d2] }
  | _ => none }
def plannerAddsAsSpecifiedRow : OpenClaim := { program := "ytkmhjgdpkddbnaa", sum := "7c58249208ac6a4477b54d9df7d1f9bf316880ea9b1345d913bb5434c14c7bc6", func := "voxel/voxellaw43.PlannerAddsAsSpecified", spec := "plannerAddsAsSpecified", unfollowed := true, recurses := true, plainKeys := false, apart := false }
def PlannerAddsAsSpecifiedSaid : Prop := plannerAddsAsSpecifiedRow.holds Try.pinned (OpenSpec.ofChange plannerAddsAsSpecifiedSpec)

/-- ITS FALSE NEIGHBOUR: 'it returns false'. Refute it at one input. -/
def plannerAddsAsSpecifiedWrong : ChangeSpec := { name := "plannerAddsAsSpecified", fn := fun _ => fun
  | [d1, d2] => { results := [.lit (.bool false)], args := [d1, d2] }
  | _ => none }
def PlannerAddsAsSpecifiedWrongFalsely : Prop := plannerAddsAsSpecifiedRow.holds Try.pinned (OpenSpec.ofChange plannerAddsAsSpecifiedWrong)

/-- 'voxellaw43.PlannerKeepsTheBudget': WHATEVER THE INPUT: true; the input reads as it did. -/
def plannerKeepsTheBudgetSpec : ChangeSpec := { name := "plannerKeepsTheBudget", fn := fun _ => fun
  | [d1, d2, d3] => { results := [.lit (.bool true)], args := [d1, d2, d3] }
  | _ => none }
def plannerKeepsTheBudgetRow : OpenClaim := { program := "ytkmhjgdpkddbnaa", sum := "7c58249208ac6a4477b54d9df7d1f9bf316880ea9b1345d913bb5434c14c7bc6", func := "voxel/voxellaw43.PlannerKeepsTheBudget", spec := "plannerKeepsTheBudget", unfollowed := true, recurses := true, plainKeys := false, apart := false }
def PlannerKeepsTheBudgetSaid : Prop := plannerKeepsTheBudgetRow.holds Try.pinned (OpenSpec.ofChange plannerKeepsTheBudgetSpec)

/-- ITS FALSE NEIGHBOUR: 'it returns false'. Refute it at one input. -/
def plannerKeepsTheBudgetWrong : ChangeSpec := { name := "plannerKeepsTheBudget", fn := fun _ => fun
  | [d1, d2, d3] => { results := [.lit (.bool false)], args := [d1, d2, d3] }
  | _ => none }
def PlannerKeepsTheBudgetWrongFalsely : Prop := plannerKeepsTheBudgetRow.holds Try.pinned (OpenSpec.ofChange plannerKeepsTheBudgetWrong)

/-- 'voxellaw43.PlannerNeedsNoBudget': WHATEVER THE INPUT: true; the input reads as it did. -/
def plannerNeedsNoBudgetSpec : ChangeSpec := { name := "plannerNeedsNoBudget", fn := fun _ => fun
  | [d1, d2, d3, d4] => { results := [.lit (.bool true)], args := [d1, d2, d3, d4] }
  | _ => none }
def plannerNeedsNoBudgetRow : OpenClaim := { program := "ytkmhjgdpkddbnaa", sum := "7c58249208ac6a4477b54d9df7d1f9bf316880ea9b1345d913bb5434c14c7bc6", func := "voxel/voxellaw43.PlannerNeedsNoBudget", spec := "plannerNeedsNoBudget", unfollowed := true, recurses := true, plainKeys := false, apart := false }
def PlannerNeedsNoBudgetSaid : Prop := plannerNeedsNoBudgetRow.holds Try.pinned (OpenSpec.ofChange plannerNeedsNoBudgetSpec)

/-- ITS FALSE NEIGHBOUR: 'it returns false'. Refute it at one input. -/
def plannerNeedsNoBudgetWrong : ChangeSpec := { name := "plannerNeedsNoBudget", fn := fun _ => fun
  | [d1, d2, d3, d4] => { results := [.lit (.bool false)], args := [d1, d2, d3, d4] }
  | _ => none }
def PlannerNeedsNoBudgetWrongFalsely : Prop := plannerNeedsNoBudgetRow.holds Try.pinned (OpenSpec.ofChange plannerNeedsNoBudgetWrong)

/-- 'voxellaw43.PlannerSeesLess': WHATEVER THE INPUT: true; the input reads as it did. -/
def plannerSeesLessSpec : ChangeSpec := { name := "plannerSeesLess", fn := fun _ => fun
  | [d1, d2, d3, d4] => { results := [.lit (.bool true)], args := [d1, d2, d3, d4] }
  | _ => none }
def plannerSeesLessRow : OpenClaim := { program := "ytkmhjgdpkddbnaa", sum := "7c58249208ac6a4477b54d9df7d1f9bf316880ea9b1345d913bb5434c14c7bc6", func := "voxel/voxellaw43.PlannerSeesLess", spec := "plannerSeesLess", unfollowed := true, recurses := true, plainKeys := false, apart := false }
def PlannerSeesLessSaid : Prop := plannerSeesLessRow.holds Try.pinned (OpenSpec.ofChange plannerSeesLessSpec)

/-- ITS FALSE NEIGHBOUR: 'it returns false'. Refute it at one input. -/
def plannerSeesLessWrong : ChangeSpec := { name := "plannerSeesLess", fn := fun _ => fun
  | [d1, d2, d3, d4] => { results := [.lit (.bool false)], args := [d1, d2, d3, d4] }
  | _ => none }
def PlannerSeesLessWrongFalsely : Prop := plannerSeesLessRow.holds Try.pinned (OpenSpec.ofChange plannerSeesLessWrong)

/- THE SECOND FORM. 'bulk': how many values and letters a reading holds, each counted each time it is reached (what is shared counts as often as it is met; a slice's spare places count too). A statement '..UptoSaid' is the law's where the arguments, and the package variables that the reading takes, are together of bulk at most 1048576: NARROWER than '..Said'. Prove '..Said' where nothing that the law and all that it calls make is longer than what came in: it says more and counts as full. Else prove '..UptoSaid'. A law counts once. -/
mutual
def uptoBulk {H : Type} : DataW H → Nat
  | .lit (.string bytes) => bytes.length + 1
  | .lit _ => 1
  | .nil => 1
  | .ptr d => uptoBulk d + 1
  | .slice elems spare => uptoBulkAll elems + uptoBulkAll spare + 1
  | .agg parts => uptoBulkAll parts + 1
  | .iface _ d => uptoBulk d + 1
  | .map entries => uptoBulkEntries entries + 1
  | .held _ => 1
def uptoBulkAll {H : Type} : List (DataW H) → Nat
  | [] => 0
  | d :: r => uptoBulk d + uptoBulkAll r
def uptoBulkEntries {H : Type} : List (Lit × DataW H) → Nat
  | [] => 0
  | x :: r => uptoBulkEntry x + uptoBulkEntries r
def uptoBulkEntry {H : Type} : Lit × DataW H → Nat
  | (.string bytes, d) => bytes.length + uptoBulk d + 1
  | (_, d) => uptoBulk d + 1
 end
def uptoSmall : (H : Type) → List (DataW H) → Bool := fun _ ds => decide (uptoBulkAll ds ≤ 1048576)
def OpenSpec.upto (s : _root_.Go.ChangeSpec) : _root_.Go.OpenSpec := { _root_.Go.OpenSpec.ofChange s with cond := some uptoSmall }

/-- 'voxellaw43.PlannerMatchesSpec', WHERE WHAT IT READS IS OF BULK AT MOST 1048576: true; the input reads as it did. -/
def plannerMatchesSpecUptoRow : OpenClaim := { program := "ytkmhjgdpkddbnaa", sum := "7c58249208ac6a4477b54d9df7d1f9bf316880ea9b1345d913bb5434c14c7bc6", func := "voxel/voxellaw43.PlannerMatchesSpec", spec := "plannerMatchesSpec", unfollowed := true, recurses := true, plainKeys := false, apart := false, narrowed := true }
def PlannerMatchesSpecUptoSaid : Prop := plannerMatchesSpecUptoRow.holds Try.pinned (OpenSpec.upto plannerMatchesSpecSpec)

/-- 'voxellaw43.PlannerAddsAsSpecified', WHERE WHAT IT READS IS OF BULK AT MOST 1048576: true; the input reads as it did. -/
def plannerAddsAsSpecifiedUptoRow : OpenClaim := { program := "ytkmhjgdpkddbnaa", sum := "7c58249208ac6a4477b54d9df7d1f9bf316880ea9b1345d913bb5434c14c7bc6", func := "voxel/voxellaw43.PlannerAddsAsSpecified", spec := "plannerAddsAsSpecified", unfollowed := true, recurses := true, plainKeys := false, apart := false, narrowed := true }
def PlannerAddsAsSpecifiedUptoSaid : Prop := plannerAddsAsSpecifiedUptoRow.holds Try.pinned (OpenSpec.upto plannerAddsAsSpecifiedSpec)

/-- 'voxellaw43.PlannerKeepsTheBudget', WHERE WHAT IT READS IS OF BULK AT MOST 1048576: true; the input reads as it did. -/
def plannerKeepsTheBudgetUptoRow : OpenClaim := { program := "ytkmhjgdpkddbnaa", sum := "7c58249208ac6a4477b54d9df7d1f9bf316880ea9b1345d913bb5434c14c7bc6", func := "voxel/voxellaw43.PlannerKeepsTheBudget", spec := "plannerKeepsTheBudget", unfollowed := true, recurses := true, plainKeys := false, apart := false, narrowed := true }
def PlannerKeepsTheBudgetUptoSaid : Prop := plannerKeepsTheBudgetUptoRow.holds Try.pinned (OpenSpec.upto plannerKeepsTheBudgetSpec)

/-- 'voxellaw43.PlannerNeedsNoBudget', WHERE WHAT IT READS IS OF BULK AT MOST 1048576: true; the input reads as it did. -/
def plannerNeedsNoBudgetUptoRow : OpenClaim := { program := "ytkmhjgdpkddbnaa", sum := "7c58249208ac6a4477b54d9df7d1f9bf316880ea9b1345d913bb5434c14c7bc6", func := "voxel/voxellaw43.PlannerNeedsNoBudget", spec := "plannerNeedsNoBudget", unfollowed := true, recurses := true, plainKeys := false, apart := false, narrowed := true }
def PlannerNeedsNoBudgetUptoSaid : Prop := plannerNeedsNoBudgetUptoRow.holds Try.pinned (OpenSpec.upto plannerNeedsNoBudgetSpec)

/-- 'voxellaw43.PlannerSeesLess', WHERE WHAT IT READS IS OF BULK AT MOST 1048576: true; the input reads as it did. -/
def plannerSeesLessUptoRow : OpenClaim := { program := "ytkmhjgdpkddbnaa", sum := "7c58249208ac6a4477b54d9df7d1f9bf316880ea9b1345d913bb5434c14c7bc6", func := "voxel/voxellaw43.PlannerSeesLess", spec := "plannerSeesLess", unfollowed := true, recurses := true, plainKeys := false, apart := false, narrowed := true }
def PlannerSeesLessUptoSaid : Prop := plannerSeesLessUptoRow.holds Try.pinned (OpenSpec.upto plannerSeesLessSpec)

end Rows
end Go.Proofs.Ytkmhjgdpkddbnaa
