/-
  No cell of these rows narrows 'for every input' (looked for: loops, veiled, ifaces, maps, wideKeys, modest, calm, conditions, laid).
  DERIVED. THE GIVEN ROWS OF THIS SEAT. 5 by the template 'for every input the law returns true; each argument reads behind the call as it read before'; 0 by the template 'total and deterministic' (their statements: YtopdcdjmiepdfaaTotals.lean).
  GIVEN WITH THE SEED: the statements are not yours to turn. If you find one false, say at which input.
  Laid BY PROGRAM, IN A SANDBOX (cutbox-rows.mjs): the forced cells as the released guide's own fill.sh prints them over the translation 09000de6c42ce23b… (all of the seat's roots in one cut). By AI agents, Wed Nov 11 2026. No macro, syntax, notation, axiom, sorry.
-/
import Derived.Test.YtopdcdjmiepdfaaChecked
import GoSem.Claim
import GoSem.ClaimJoined
import GoSem.ClaimMapViews
import Derived.JoinedTies
import Derived.KernelRfl
namespace Go.Proofs.Ytopdcdjmiepdfaa
/- THE CELL 'sum', in the pinned program and in every row, IS THE sha256 OF THE DUMP (.gsa) THAT YtopdcdjmiepdfaaProg.lean LOADS. Nothing in Lean hashes anything: it is a label: what it is worth is what the hold of that sum in a sandbox is worth. -/
noncomputable def Try.pinned : Pinned := { name := "ytopdcdjmiepdfaa", sum := "09000de6c42ce23bbbd75b7e0a38f698037f27fb725fe7227edae0b9e50b4ce5", checked := Try.checked }
namespace Rows
def none {H : Type} : Left H := { results := [], args := [] }

/-- 'voxellaw42.RayWalkMatchesSpec': WHATEVER THE INPUT: true; the input reads as it did. -/
def rayWalkMatchesSpecSpec : ChangeSpec := { name := "rayWalkMatchesSpec", fn := fun _ => fun
  | [d1, d2, d3] => { results := [.lit (.bool true)], args := [d1, d2, d3] }
  | _ => none }
def rayWalkMatchesSpecRow : OpenClaim := { program := "ytopdcdjmiepdfaa", sum := "09000de6c42ce23bbbd75b7e0a38f698037f27fb725fe7227edae0b9e50b4ce5", func := "voxel/voxellaw42.RayWalkMatchesSpec", spec := "rayWalkMatchesSpec", unfollowed := true, recurses := true, apart := false }
def RayWalkMatchesSpecSaid : Prop := rayWalkMatchesSpecRow.holds Try.pinned (OpenSpec.ofChange rayWalkMatchesSpecSpec)

/-- ITS FALSE NEIGHBOUR: 'it returns false'. Refute it at one input. -/
def rayWalkMatchesSpecWrong : ChangeSpec := { name := "rayWalkMatchesSpec", fn := fun _ => fun
  | [d1, d2, d3] => { results := [.lit (.bool false)], args := [d1, d2, d3] }
  | _ => none }
def RayWalkMatchesSpecWrongFalsely : Prop := rayWalkMatchesSpecRow.holds Try.pinned (OpenSpec.ofChange rayWalkMatchesSpecWrong)

/-- 'voxellaw42.RayFirstMatchesSpec': WHATEVER THE INPUT: true; the input reads as it did. -/
def rayFirstMatchesSpecSpec : ChangeSpec := { name := "rayFirstMatchesSpec", fn := fun _ => fun
  | [d1, d2, d3, d4] => { results := [.lit (.bool true)], args := [d1, d2, d3, d4] }
  | _ => none }
def rayFirstMatchesSpecRow : OpenClaim := { program := "ytopdcdjmiepdfaa", sum := "09000de6c42ce23bbbd75b7e0a38f698037f27fb725fe7227edae0b9e50b4ce5", func := "voxel/voxellaw42.RayFirstMatchesSpec", spec := "rayFirstMatchesSpec", unfollowed := true, recurses := true, apart := false }
def RayFirstMatchesSpecSaid : Prop := rayFirstMatchesSpecRow.holds Try.pinned (OpenSpec.ofChange rayFirstMatchesSpecSpec)

/-- ITS FALSE NEIGHBOUR: 'it returns false'. Refute it at one input. -/
def rayFirstMatchesSpecWrong : ChangeSpec := { name := "rayFirstMatchesSpec", fn := fun _ => fun
  | [d1, d2, d3, d4] => { results := [.lit (.bool false)], args := [d1, d2, d3, d4] }
  | _ => none }
def RayFirstMatchesSpecWrongFalsely : Prop := rayFirstMatchesSpecRow.holds Try.pinned (OpenSpec.ofChange rayFirstMatchesSpecWrong)

/-- 'voxellaw42.RayWalksAreConnected': WHATEVER THE INPUT: true; the input reads as it did. -/
def rayWalksAreConnectedSpec : ChangeSpec := { name := "rayWalksAreConnected", fn := fun _ => fun
  | [d1, d2] => { results := [.lit (.bool true)], args := [d1, d2] }
  | _ => none }
def rayWalksAreConnectedRow : OpenClaim := { program := "ytopdcdjmiepdfaa", sum := "09000de6c42ce23bbbd75b7e0a38f698037f27fb725fe7227edae0b9e50b4ce5", func := "voxel/voxellaw42.RayWalksAreConnected", spec := "rayWalksAreConnected", unfollowed := true, recurses := true, apart := false }
def RayWalksAreConnectedSaid : Prop := rayWalksAreConnectedRow.holds Try.pinned (OpenSpec.ofChange rayWalksAreConnectedSpec)

/-- ITS FALSE NEIGHBOUR: 'it returns false'. Refute it at one input. -/
def rayWalksAreConnectedWrong : ChangeSpec := { name := "rayWalksAreConnected", fn := fun _ => fun
  | [d1, d2] => { results := [.lit (.bool false)], args := [d1, d2] }
  | _ => none }
def RayWalksAreConnectedWrongFalsely : Prop := rayWalksAreConnectedRow.holds Try.pinned (OpenSpec.ofChange rayWalksAreConnectedWrong)

/-- 'voxellaw42.RayBackwards': WHATEVER THE INPUT: true; the input reads as it did. -/
def rayBackwardsSpec : ChangeSpec := { name := "rayBackwards", fn := fun _ => fun
  | [d1, d2, d3] => { results := [.lit (.bool true)], args := [d1, d2, d3] }
  | _ => none }
def rayBackwardsRow : OpenClaim := { program := "ytopdcdjmiepdfaa", sum := "09000de6c42ce23bbbd75b7e0a38f698037f27fb725fe7227edae0b9e50b4ce5", func := "voxel/voxellaw42.RayBackwards", spec := "rayBackwards", unfollowed := true, recurses := true, apart := false }
def RayBackwardsSaid : Prop := rayBackwardsRow.holds Try.pinned (OpenSpec.ofChange rayBackwardsSpec)

/-- ITS FALSE NEIGHBOUR: 'it returns false'. Refute it at one input. -/
def rayBackwardsWrong : ChangeSpec := { name := "rayBackwards", fn := fun _ => fun
  | [d1, d2, d3] => { results := [.lit (.bool false)], args := [d1, d2, d3] }
  | _ => none }
def RayBackwardsWrongFalsely : Prop := rayBackwardsRow.holds Try.pinned (OpenSpec.ofChange rayBackwardsWrong)

/-- 'voxellaw42.RaySeesBothWays': WHATEVER THE INPUT: true; the input reads as it did. -/
def raySeesBothWaysSpec : ChangeSpec := { name := "raySeesBothWays", fn := fun _ => fun
  | [d1, d2, d3, d4] => { results := [.lit (.bool true)], args := [d1, d2, d3, d4] }
  | _ => none }
def raySeesBothWaysRow : OpenClaim := { program := "ytopdcdjmiepdfaa", sum := "09000de6c42ce23bbbd75b7e0a38f698037f27fb725fe7227edae0b9e50b4ce5", func := "voxel/voxellaw42.RaySeesBothWays", spec := "raySeesBothWays", unfollowed := true, recurses := true, apart := false }
def RaySeesBothWaysSaid : Prop := raySeesBothWaysRow.holds Try.pinned (OpenSpec.ofChange raySeesBothWaysSpec)

/-- ITS FALSE NEIGHBOUR: 'it returns false'. Refute it at one input. -/
def raySeesBothWaysWrong : ChangeSpec := { name := "raySeesBothWays", fn := fun _ => fun
  | [d1, d2, d3, d4] => { results := [.lit (.bool false)], args := [d1, d2, d3, d4] }
  | _ => none }
def RaySeesBothWaysWrongFalsely : Prop := raySeesBothWaysRow.holds Try.pinned (OpenSpec.ofChange raySeesBothWaysWrong)

/- THE SECOND FORM. 'bulk': how many values and letters a reading holds, each counted each time it is reached (what is shared counts as often as it is met; a slice's spare places count too). A statement '..UptoSaid' is the law's where the arguments, and the package variables that the reading takes, are together of bulk at most 1048576: NARROWER than '..Said'. Prove '..Said' where nothing that the law and all that it calls make is longer than what came in: it says more and counts as full. Else prove '..UptoSaid'. A law counts once. -/
mutual
def uptoBulk {H : Type} : DataW H → Nat
  | .lit (.string bytes) => bytes.length + 1
  | .lit _ => 1
  | .nil => 1
  | .ptr d => uptoBulk d + 1
  | .slice elems spare => uptoBulkAll elems + uptoBulkAll spare + 1
  | .agg parts => uptoBulkAll parts + 1
  | .iface _ d => uptoBulk d + 1
  | .map entries => uptoBulkEntries entries + 1
  | .held _ => 1
def uptoBulkAll {H : Type} : List (DataW H) → Nat
  | [] => 0
  | d :: r => uptoBulk d + uptoBulkAll r
def uptoBulkEntries {H : Type} : List (Lit × DataW H) → Nat
  | [] => 0
  | x :: r => uptoBulkEntry x + uptoBulkEntries r
def uptoBulkEntry {H : Type} : Lit × DataW H → Nat
  | (.string bytes, d) => bytes.length + uptoBulk d + 1
  | (_, d) => uptoBulk d + 1
 end
def uptoSmall : (H : Type) → List (DataW H) → Bool := fun _ ds => decide (uptoBulkAll ds ≤ 1048576)
def OpenSpec.upto (s : _root_.Go.ChangeSpec) : _root_.Go.OpenSpec := { _root_.Go.OpenSpec.ofChange s with cond := some uptoSmall }

/-- 'voxellaw42.RayWalkMatchesSpec', WHERE WHAT IT READS IS OF BULK AT MOST 1048576: true; the input reads as it did. -/
def rayWalkMatchesSpecUptoRow : OpenClaim := { program := "ytopdcdjmiepdfaa", sum := "09000de6c42ce23bbbd75b7e0a38f698037f27fb725fe7227edae0b9e50b4ce5", func := "voxel/voxellaw42.RayWalkMatchesSpec", spec := "rayWalkMatchesSpec", unfollowed := true, recurses := true, apart := false, narrowed := true }
def RayWalkMatchesSpecUptoSaid : Prop := rayWalkMatchesSpecUptoRow.holds Try.pinned (OpenSpec.upto rayWalkMatchesSpecSpec)

/-- 'voxellaw42.RayFirstMatchesSpec', WHERE WHAT IT READS IS OF BULK AT MOST 1048576: true; the input reads as it did. -/
def rayFirstMatchesSpecUptoRow : OpenClaim := { program := "ytopdcdjmiepdfaa", sum := "09000de6c42ce23bbbd75b7e0a38f698037f27fb725fe7227edae0b9e50b4ce5", func := "voxel/voxellaw42.RayFirstMatchesSpec", spec := "rayFirstMatchesSpec", unfollowed := true, recurses := true, apart := false, narrowed := true }
def RayFirstMatchesSpecUptoSaid : Prop := rayFirstMatchesSpecUptoRow.holds Try.pinned (OpenSpec.upto rayFirstMatchesSpecSpec)

/-- 'voxellaw42.RayWalksAreConnected', WHERE WHAT IT READS IS OF BULK AT MOST 1048576: true; the input reads as it did. -/
def rayWalksAreConnectedUptoRow : OpenClaim := { program := "ytopdcdjmiepdfaa", sum := "09000de6c42ce23bbbd75b7e0a38f698037f27fb725fe7227edae0b9e50b4ce5", func := "voxel/voxellaw42.RayWalksAreConnected", spec := "rayWalksAreConnected", unfollowed := true, recurses := true, apart := false, narrowed := true }
def RayWalksAreConnectedUptoSaid : Prop := rayWalksAreConnectedUptoRow.holds Try.pinned (OpenSpec.upto rayWalksAreConnectedSpec)

/-- 'voxellaw42.RayBackwards', WHERE WHAT IT READS IS OF BULK AT MOST 1048576: true; the input reads as it did. -/
def rayBackwardsUptoRow : OpenClaim := { program := "ytopdcdjmiepdfaa", sum := "09000de6c42ce23bbbd75b7e0a38f698037f27fb725fe7227edae0b9e50b4ce5", func := "voxel/voxellaw42.RayBackwards", spec := "rayBackwards", unfollowed := true, recurses := true, apart := false, narrowed := true }
def RayBackwardsUptoSaid : Prop := rayBackwardsUptoRow.holds Try.pinned (OpenSpec.upto rayBackwardsSpec)

/-- 'voxellaw42.RaySeesBothWays', WHERE WHAT IT READS IS OF BULK AT MOST 1048576: true; the input reads as it did. -/
def raySeesBothWaysUptoRow : OpenClaim := { program := "ytopdcdjmiepdfaa", sum := "09000de6c42ce23bbbd75b7e0a38f698037f27fb725fe7227edae0b9e50b4ce5", func := "voxel/voxellaw42.RaySeesBothWays", spec := "raySeesBothWays", unfollowed := true, recurses := true, apart := false, narrowed := true }
def RaySeesBothWaysUptoSaid : Prop := raySeesBothWaysUptoRow.holds Try.pinned (OpenSpec.upto raySeesBothWaysSpec)

end Rows
end Go.Proofs.Ytopdcdjmiepdfaa
