/-
  No cell of these rows narrows 'for every input' (looked for: loops, veiled, ifaces, maps, wideKeys, modest, calm, conditions, laid).
  DERIVED. THE GIVEN ROWS OF THIS SEAT. 6 by the template 'for every input the law returns true; each argument reads behind the call as it read before'; 0 by the template 'total and deterministic' (their statements: YtkfijpghjjnpkaaTotals.lean).
  GIVEN WITH THE SEED: the statements are not yours to turn. If you find one false, say at which input.
  Laid BY PROGRAM, IN A SANDBOX (cutbox-rows.mjs): the forced cells as the released guide's own fill.sh prints them over the translation b3d18a20a7677adf… (all of the seat's roots in one cut). By AI agents, Wed Nov 11 2026. No macro, syntax, notation, axiom, sorry.
-/
import Derived.Test.YtkfijpghjjnpkaaChecked
import GoSem.Claim
import GoSem.ClaimJoined
import GoSem.ClaimMapViews
import Derived.JoinedTies
import Derived.KernelRfl
namespace Go.Proofs.Ytkfijpghjjnpkaa
/- THE CELL 'sum', in the pinned program and in every row, IS THE sha256 OF THE DUMP (.gsa) THAT YtkfijpghjjnpkaaProg.lean LOADS. Nothing in Lean hashes anything: it is a label: what it is worth is what the hold of that sum in a sandbox is worth. -/
noncomputable def Try.pinned : Pinned := { name := "ytkfijpghjjnpkaa", sum := "b3d18a20a7677adf75848a2b76f9365795b2448a5473509e4e99f522fb223540", checked := Try.checked }
namespace Rows
def none {H : Type} : Left H := { results := [], args := [] }

/-- 'voxellaw05.MortonMatchesSpec': WHATEVER THE INPUT: true; the input reads as it did. -/
def mortonMatchesSpecSpec : ChangeSpec := { name := "mortonMatchesSpec", fn := fun _ => fun
  | [d1, d2, d3, d4, d5, d6] => { results := [.lit (.bool true)], args := [d1, d2, d3, d4, d5, d6] }
  | _ => none }
def mortonMatchesSpecRow : OpenClaim := { program := "ytkfijpghjjnpkaa", sum := "b3d18a20a7677adf75848a2b76f9365795b2448a5473509e4e99f522fb223540", func := "voxel/voxellaw05.MortonMatchesSpec", spec := "mortonMatchesSpec", unfollowed := true, recurses := true, apart := false }
def MortonMatchesSpecSaid : Prop := mortonMatchesSpecRow.holds Try.pinned (OpenSpec.ofChange mortonMatchesSpecSpec)

/-- ITS FALSE NEIGHBOUR: 'it returns false'. Refute it at one input. -/
def mortonMatchesSpecWrong : ChangeSpec := { name := "mortonMatchesSpec", fn := fun _ => fun
  | [d1, d2, d3, d4, d5, d6] => { results := [.lit (.bool false)], args := [d1, d2, d3, d4, d5, d6] }
  | _ => none }
def MortonMatchesSpecWrongFalsely : Prop := mortonMatchesSpecRow.holds Try.pinned (OpenSpec.ofChange mortonMatchesSpecWrong)

/-- 'voxellaw05.MortonBoxesMatchSpec': WHATEVER THE INPUT: true; the input reads as it did. -/
def mortonBoxesMatchSpecSpec : ChangeSpec := { name := "mortonBoxesMatchSpec", fn := fun _ => fun
  | [d1, d2] => { results := [.lit (.bool true)], args := [d1, d2] }
  | _ => none }
def mortonBoxesMatchSpecRow : OpenClaim := { program := "ytkfijpghjjnpkaa", sum := "b3d18a20a7677adf75848a2b76f9365795b2448a5473509e4e99f522fb223540", func := "voxel/voxellaw05.MortonBoxesMatchSpec", spec := "mortonBoxesMatchSpec", unfollowed := true, recurses := true, apart := false }
def MortonBoxesMatchSpecSaid : Prop := mortonBoxesMatchSpecRow.holds Try.pinned (OpenSpec.ofChange mortonBoxesMatchSpecSpec)

/-- ITS FALSE NEIGHBOUR: 'it returns false'. Refute it at one input. -/
def mortonBoxesMatchSpecWrong : ChangeSpec := { name := "mortonBoxesMatchSpec", fn := fun _ => fun
  | [d1, d2] => { results := [.lit (.bool false)], args := [d1, d2] }
  | _ => none }
def MortonBoxesMatchSpecWrongFalsely : Prop := mortonBoxesMatchSpecRow.holds Try.pinned (OpenSpec.ofChange mortonBoxesMatchSpecWrong)

/-- 'voxellaw05.MortonRoundTrips': WHATEVER THE INPUT: true; the input reads as it did. -/
def mortonRoundTripsSpec : ChangeSpec := { name := "mortonRoundTrips", fn := fun _ => fun
  | [d1, d2, d3] => { results := [.lit (.bool true)], args := [d1, d2, d3] }
  | _ => none }
def mortonRoundTripsRow : OpenClaim := { program := "ytkfijpghjjnpkaa", sum := "b3d18a20a7677adf75848a2b76f9365795b2448a5473509e4e99f522fb223540", func := "voxel/voxellaw05.MortonRoundTrips", spec := "mortonRoundTrips", unfollowed := true, recurses := true, apart := false }
def MortonRoundTripsSaid : Prop := mortonRoundTripsRow.holds Try.pinned (OpenSpec.ofChange mortonRoundTripsSpec)

/-- ITS FALSE NEIGHBOUR: 'it returns false'. Refute it at one input. -/
def mortonRoundTripsWrong : ChangeSpec := { name := "mortonRoundTrips", fn := fun _ => fun
  | [d1, d2, d3] => { results := [.lit (.bool false)], args := [d1, d2, d3] }
  | _ => none }
def MortonRoundTripsWrongFalsely : Prop := mortonRoundTripsRow.holds Try.pinned (OpenSpec.ofChange mortonRoundTripsWrong)

/-- 'voxellaw05.MortonCubesTile': WHATEVER THE INPUT: true; the input reads as it did. -/
def mortonCubesTileSpec : ChangeSpec := { name := "mortonCubesTile", fn := fun _ => fun
  | [d1, d2] => { results := [.lit (.bool true)], args := [d1, d2] }
  | _ => none }
def mortonCubesTileRow : OpenClaim := { program := "ytkfijpghjjnpkaa", sum := "b3d18a20a7677adf75848a2b76f9365795b2448a5473509e4e99f522fb223540", func := "voxel/voxellaw05.MortonCubesTile", spec := "mortonCubesTile", unfollowed := true, recurses := true, apart := false }
def MortonCubesTileSaid : Prop := mortonCubesTileRow.holds Try.pinned (OpenSpec.ofChange mortonCubesTileSpec)

/-- ITS FALSE NEIGHBOUR: 'it returns false'. Refute it at one input. -/
def mortonCubesTileWrong : ChangeSpec := { name := "mortonCubesTile", fn := fun _ => fun
  | [d1, d2] => { results := [.lit (.bool false)], args := [d1, d2] }
  | _ => none }
def MortonCubesTileWrongFalsely : Prop := mortonCubesTileRow.holds Try.pinned (OpenSpec.ofChange mortonCubesTileWrong)

/-- 'voxellaw05.MortonNextVisits': WHATEVER THE INPUT: true; the input reads as it did. -/
def mortonNextVisitsSpec : ChangeSpec := { name := "mortonNextVisits", fn := fun _ => fun
  | [d] => { results := [.lit (.bool true)], args := [d] }
  | _ => none }
def mortonNextVisitsRow : OpenClaim := { program := "ytkfijpghjjnpkaa", sum := "b3d18a20a7677adf75848a2b76f9365795b2448a5473509e4e99f522fb223540", func := "voxel/voxellaw05.MortonNextVisits", spec := "mortonNextVisits", unfollowed := true, recurses := true, apart := false }
def MortonNextVisitsSaid : Prop := mortonNextVisitsRow.holds Try.pinned (OpenSpec.ofChange mortonNextVisitsSpec)

/-- ITS FALSE NEIGHBOUR: 'it returns false'. Refute it at one input. -/
def mortonNextVisitsWrong : ChangeSpec := { name := "mortonNextVisits", fn := fun _ => fun
  | [d] => { results := [.lit (.bool false)], args := [d] }
  | _ => none }
def MortonNextVisitsWrongFalsely : Prop := mortonNextVisitsRow.holds Try.pinned (OpenSpec.ofChange mortonNextVisitsWrong)

/-- 'voxellaw05.MortonNeighbours': WHATEVER THE INPUT: true; the input reads as it did. -/
def mortonNeighboursSpec : ChangeSpec := { name := "mortonNeighbours", fn := fun _ => fun
  | [d1, d2, d3] => { results := [.lit (.bool true)], args := [d1, d2, d3] }
  | _ => none }
def mortonNeighboursRow : OpenClaim := { program := "ytkfijpghjjnpkaa", sum := "b3d18a20a7677adf75848a2b76f9365795b2448a5473509e4e99f522fb223540", func := "voxel/voxellaw05.MortonNeighbours", spec := "mortonNeighbours", unfollowed := true, recurses := true, apart := false }
def MortonNeighboursSaid : Prop := mortonNeighboursRow.holds Try.pinned (OpenSpec.ofChange mortonNeighboursSpec)

/-- ITS FALSE NEIGHBOUR: 'it returns false'. Refute it at one input. -/
def mortonNeighboursWrong : ChangeSpec := { name := "mortonNeighbours", fn := fun _ => fun
  | [d1, d2, d3] => { results := [.lit (.bool false)], args := [d1, d2, d3] }
  | _ => none }
def MortonNeighboursWrongFalsely : Prop := mortonNeighboursRow.holds Try.pinned (OpenSpec.ofChange mortonNeighboursWrong)

/- THE SECOND FORM. 'bulk': how many values and letters a reading holds, each counted each time it is reached (what is shared counts as often as it is met; a slice's spare places count too). A statement '..UptoSaid' is the law's where the arguments, and the package variables that the reading takes, are together of bulk at most 1048576: NARROWER than '..Said'. Prove '..Said' where nothing that the law and all that it calls make is longer than what came in: it says more and counts as full. Else prove '..UptoSaid'. A law counts once. -/
mutual
def uptoBulk {H : Type} : DataW H → Nat
  | .lit (.string bytes) => bytes.length + 1
  | .lit _ => 1
  | .nil => 1
  | .ptr d => uptoBulk d + 1
  | .slice elems spare => uptoBulkAll elems + uptoBulkAll spare + 1
  | .agg parts => uptoBulkAll parts + 1
  | .iface _ d => uptoBulk d + 1
  | .map entries => uptoBulkEntries entries + 1
  | .held _ => 1
def uptoBulkAll {H : Type} : List (DataW H) → Nat
  | [] => 0
  | d :: r => uptoBulk d + uptoBulkAll r
def uptoBulkEntries {H : Type} : List (Lit × DataW H) → Nat
  | [] => 0
  | x :: r => uptoBulkEntry x + uptoBulkEntries r
def uptoBulkEntry {H : Type} : Lit × DataW H → Nat
  | (.string bytes, d) => bytes.length + uptoBulk d + 1
  | (_, d) => uptoBulk d + 1
 end
def uptoSmall : (H : Type) → List (DataW H) → Bool := fun _ ds => decide (uptoBulkAll ds ≤ 1048576)
def OpenSpec.upto (s : _root_.Go.ChangeSpec) : _root_.Go.OpenSpec := { _root_.Go.OpenSpec.ofChange s with cond := some uptoSmall }

/-- 'voxellaw05.MortonMatchesSpec', WHERE WHAT IT READS IS OF BULK AT MOST 1048576: true; the input reads as it did. -/
def mortonMatchesSpecUptoRow : OpenClaim := { program := "ytkfijpghjjnpkaa", sum := "b3d18a20a7677adf75848a2b76f9365795b2448a5473509e4e99f522fb223540", func := "voxel/voxellaw05.MortonMatchesSpec", spec := "mortonMatchesSpec", unfollowed := true, recurses := true, apart := false, narrowed := true }
def MortonMatchesSpecUptoSaid : Prop := mortonMatchesSpecUptoRow.holds Try.pinned (OpenSpec.upto mortonMatchesSpecSpec)

/-- 'voxellaw05.MortonBoxesMatchSpec', WHERE WHAT IT READS IS OF BULK AT MOST 1048576: true; the input reads as it did. -/
def mortonBoxesMatchSpecUptoRow : OpenClaim := { program := "ytkfijpghjjnpkaa", sum := "b3d18a20a7677adf75848a2b76f9365795b2448a5473509e4e99f522fb223540", func := "voxel/voxellaw05.MortonBoxesMatchSpec", spec := "mortonBoxesMatchSpec", unfollowed := true, recurses := true, apart := false, narrowed := true }
def MortonBoxesMatchSpecUptoSaid : Prop := mortonBoxesMatchSpecUptoRow.holds Try.pinned (OpenSpec.upto mortonBoxesMatchSpecSpec)

/-- 'voxellaw05.MortonRoundTrips', WHERE WHAT IT READS IS OF BULK AT MOST 1048576: true; the input reads as it did. -/
def mortonRoundTripsUptoRow : OpenClaim := { program := "ytkfijpghjjnpkaa", sum := "b3d18a20a7677adf75848a2b76f9365795b2448a5473509e4e99f522fb223540", func := "voxel/voxellaw05.MortonRoundTrips", spec := "mortonRoundTrips", unfollowed := true, recurses := true, apart := false, narrowed := true }
def MortonRoundTripsUptoSaid : Prop := mortonRoundTripsUptoRow.holds Try.pinned (OpenSpec.upto mortonRoundTripsSpec)

/-- 'voxellaw05.MortonCubesTile', WHERE WHAT IT READS IS OF BULK AT MOST 1048576: true; the input reads as it did. -/
def mortonCubesTileUptoRow : OpenClaim := { program := "ytkfijpghjjnpkaa", sum := "b3d18a20a7677adf75848a2b76f9365795b2448a5473509e4e99f522fb223540", func := "voxel/voxellaw05.MortonCubesTile", spec := "mortonCubesTile", unfollowed := true, recurses := true, apart := false, narrowed := true }
def MortonCubesTileUptoSaid : Prop := mortonCubesTileUptoRow.holds Try.pinned (OpenSpec.upto mortonCubesTileSpec)

/-- 'voxellaw05.MortonNextVisits', WHERE WHAT IT READS IS OF BULK AT MOST 1048576: true; the input reads as it did. -/
def mortonNextVisitsUptoRow : OpenClaim := { program := "ytkfijpghjjnpkaa", sum := "b3d18a20a7677adf75848a2b76f9365795b2448a5473509e4e99f522fb223540", func := "voxel/voxellaw05.MortonNextVisits", spec := "mortonNextVisits", unfollowed := true, recurses := true, apart := false, narrowed := true }
def MortonNextVisitsUptoSaid : Prop := mortonNextVisitsUptoRow.holds Try.pinned (OpenSpec.upto mortonNextVisitsSpec)

/-- 'voxellaw05.MortonNeighbours', WHERE WHAT IT READS IS OF BULK AT MOST 1048576: true; the input reads as it did. -/
def mortonNeighboursUptoRow : OpenClaim := { program := "ytkfijpghjjnpkaa", sum := "b3d18a20a7677adf75848a2b76f9365795b2448a5473509e4e99f522fb223540", func := "voxel/voxellaw05.MortonNeighbours", spec := "mortonNeighbours", unfollowed := true, recurses := true, apart := false, narrowed := true }
def MortonNeighboursUptoSaid : Prop := mortonNeighboursUptoRow.holds Try.pinned (OpenSpec.upto mortonNeighboursSpec)

end Rows
end Go.Proofs.Ytkfijpghjjnpkaa
