/-
  No cell of these rows narrows 'for every input' (looked for: loops, veiled, ifaces, maps, wideKeys, modest, calm, conditions, laid).
  DERIVED. THE GIVEN ROWS OF THIS SEAT. 7 by the template 'for every input the law returns true; each argument reads behind the call as it read before'; 0 by the template 'total and deterministic' (their statements: YtpbebmbkcpdbeaaTotals.lean).
  GIVEN WITH THE SEED: the statements are not yours to turn. If you find one false, say at which input.
  Laid BY PROGRAM, IN A SANDBOX (cutbox-rows.mjs): the forced cells as the released guide's own fill.sh prints them over the translation b0cbb03709f56cac… (all of the seat's roots in one cut). By AI agents, Wed Nov 11 2026. No macro, syntax, notation, axiom, sorry.
-/
import Derived.Test.YtpbebmbkcpdbeaaChecked
import GoSem.Claim
import GoSem.ClaimJoined
import GoSem.ClaimMapViews
import Derived.JoinedTies
import Derived.KernelRfl
namespace Go.Proofs.Ytpbebmbkcpdbeaa
/- THE CELL 'sum', in the pinned program and in every row, IS THE sha256 OF THE DUMP (.gsa) THAT YtpbebmbkcpdbeaaProg.lean LOADS. Nothing in Lean hashes anything: it is a label: what it is worth is what the hold of that sum in a sandbox is worth. -/
noncomputable def Try.pinned : Pinned := { name := "ytpbebmbkcpdbeaa", sum := "b0cbb03709f56cac78a415f136b51cf2df7662093ab611af2b05d787b0c4b69c", checked := Try.checked }
namespace Rows
def none {H : Type} : Left H := { results := [], args := [] }

/-- 'voxellaw44.CoderEncodesAsSpecified': WHATEVER THE INPUT: true; the input reads as it did. -/
def coderEncodesAsSpecifiedSpec : ChangeSpec := { name := "coderEncodesAsSpecified", fn := fun _ => fun
  | [d1, d2] => { results := [.lit (.bool true)], args := [d1, d2] }
  | _ => none }
def coderEncodesAsSpecifiedRow : OpenClaim := { program := "ytpbebmbkcpdbeaa", sum := "b0cbb03709f56cac78a415f136b51cf2df7662093ab611af2b05d787b0c4b69c", func := "voxel/voxellaw44.CoderEncodesAsSpecified", spec := "coderEncodesAsSpecified", unfollowed := true, recurses := true, apart := false }
def CoderEncodesAsSpecifiedSaid : Prop := coderEncodesAsSpecifiedRow.holds Try.pinned (OpenSpec.ofChange coderEncodesAsSpecifiedSpec)

/-- ITS FALSE NEIGHBOUR: 'it returns false'. Refute it at one input. -/
def coderEncodesAsSpecifiedWrong : ChangeSpec := { name := "coderEncodesAsSpecified", fn := fun _ => fun
  | [d1, d2] => { results := [.lit (.bool false)], args := [d1, d2] }
  | _ => none }
def CoderEncodesAsSpecifiedWrongFalsely : Prop := coderEncodesAsSpecifiedRow.holds Try.pinned (OpenSpec.ofChange coderEncodesAsSpecifiedWrong)

/-- 'voxellaw44.CoderDecodesAsSpecified': WHATEVER THE INPUT: true; the input reads as it did. -/
def coderDecodesAsSpecifiedSpec : ChangeSpec := { name := "coderDecodesAsSpecified", fn := fun _ => fun
  | [d1, d2] => { results := [.lit (.bool true)], args := [d1, d2] }
  | _ => none }
def coderDecodesAsSpecifiedRow : OpenClaim := { program := "ytpbebmbkcpdbeaa", sum := "b0cbb03709f56cac78a415f136b51cf2df7662093ab611af2b05d787b0c4b69c", func := "voxel/voxellaw44.CoderDecodesAsSpecified", spec := "coderDecodesAsSpecified", unfollowed := true, recurses := true, apart := false }
def CoderDecodesAsSpecifiedSaid : Prop := coderDecodesAsSpecifiedRow.holds Try.pinned (OpenSpec.ofChange coderDecodesAsSpecifiedSpec)

/-- ITS FALSE NEIGHBOUR: 'it returns false'. Refute it at one input. -/
def coderDecodesAsSpecifiedWrong : ChangeSpec := { name := "coderDecodesAsSpecified", fn := fun _ => fun
  | [d1, d2] => { results := [.lit (.bool false)], args := [d1, d2] }
  | _ => none }
def CoderDecodesAsSpecifiedWrongFalsely : Prop := coderDecodesAsSpecifiedRow.holds Try.pinned (OpenSpec.ofChange coderDecodesAsSpecifiedWrong)

/-- 'voxellaw44.CoderTrainsAsSpecified': WHATEVER THE INPUT: true; the input reads as it did. -/
def coderTrainsAsSpecifiedSpec : ChangeSpec := { name := "coderTrainsAsSpecified", fn := fun _ => fun
  | [d1, d2] => { results := [.lit (.bool true)], args := [d1, d2] }
  | _ => none }
def coderTrainsAsSpecifiedRow : OpenClaim := { program := "ytpbebmbkcpdbeaa", sum := "b0cbb03709f56cac78a415f136b51cf2df7662093ab611af2b05d787b0c4b69c", func := "voxel/voxellaw44.CoderTrainsAsSpecified", spec := "coderTrainsAsSpecified", unfollowed := true, recurses := true, apart := false }
def CoderTrainsAsSpecifiedSaid : Prop := coderTrainsAsSpecifiedRow.holds Try.pinned (OpenSpec.ofChange coderTrainsAsSpecifiedSpec)

/-- ITS FALSE NEIGHBOUR: 'it returns false'. Refute it at one input. -/
def coderTrainsAsSpecifiedWrong : ChangeSpec := { name := "coderTrainsAsSpecified", fn := fun _ => fun
  | [d1, d2] => { results := [.lit (.bool false)], args := [d1, d2] }
  | _ => none }
def CoderTrainsAsSpecifiedWrongFalsely : Prop := coderTrainsAsSpecifiedRow.holds Try.pinned (OpenSpec.ofChange coderTrainsAsSpecifiedWrong)

/-- 'voxellaw44.CoderRoundTrips': WHATEVER THE INPUT: true; the input reads as it did. -/
def coderRoundTripsSpec : ChangeSpec := { name := "coderRoundTrips", fn := fun _ => fun
  | [d1, d2, d3] => { results := [.lit (.bool true)], args := [d1, d2, d3] }
  | _ => none }
def coderRoundTripsRow : OpenClaim := { program := "ytpbebmbkcpdbeaa", sum := "b0cbb03709f56cac78a415f136b51cf2df7662093ab611af2b05d787b0c4b69c", func := "voxel/voxellaw44.CoderRoundTrips", spec := "coderRoundTrips", unfollowed := true, recurses := true, apart := false }
def CoderRoundTripsSaid : Prop := coderRoundTripsRow.holds Try.pinned (OpenSpec.ofChange coderRoundTripsSpec)

/-- ITS FALSE NEIGHBOUR: 'it returns false'. Refute it at one input. -/
def coderRoundTripsWrong : ChangeSpec := { name := "coderRoundTrips", fn := fun _ => fun
  | [d1, d2, d3] => { results := [.lit (.bool false)], args := [d1, d2, d3] }
  | _ => none }
def CoderRoundTripsWrongFalsely : Prop := coderRoundTripsRow.holds Try.pinned (OpenSpec.ofChange coderRoundTripsWrong)

/-- 'voxellaw44.CoderNeverExpands': WHATEVER THE INPUT: true; the input reads as it did. -/
def coderNeverExpandsSpec : ChangeSpec := { name := "coderNeverExpands", fn := fun _ => fun
  | [d1, d2] => { results := [.lit (.bool true)], args := [d1, d2] }
  | _ => none }
def coderNeverExpandsRow : OpenClaim := { program := "ytpbebmbkcpdbeaa", sum := "b0cbb03709f56cac78a415f136b51cf2df7662093ab611af2b05d787b0c4b69c", func := "voxel/voxellaw44.CoderNeverExpands", spec := "coderNeverExpands", unfollowed := true, recurses := true, apart := false }
def CoderNeverExpandsSaid : Prop := coderNeverExpandsRow.holds Try.pinned (OpenSpec.ofChange coderNeverExpandsSpec)

/-- ITS FALSE NEIGHBOUR: 'it returns false'. Refute it at one input. -/
def coderNeverExpandsWrong : ChangeSpec := { name := "coderNeverExpands", fn := fun _ => fun
  | [d1, d2] => { results := [.lit (.bool false)], args := [d1, d2] }
  | _ => none }
def CoderNeverExpandsWrongFalsely : Prop := coderNeverExpandsRow.holds Try.pinned (OpenSpec.ofChange coderNeverExpandsWrong)

/-- 'voxellaw44.CoderModelsStay': WHATEVER THE INPUT: true; the input reads as it did. -/
def coderModelsStaySpec : ChangeSpec := { name := "coderModelsStay", fn := fun _ => fun
  | [d1, d2, d3] => { results := [.lit (.bool true)], args := [d1, d2, d3] }
  | _ => none }
def coderModelsStayRow : OpenClaim := { program := "ytpbebmbkcpdbeaa", sum := "b0cbb03709f56cac78a415f136b51cf2df7662093ab611af2b05d787b0c4b69c", func := "voxel/voxellaw44.CoderModelsStay", spec := "coderModelsStay", unfollowed := true, recurses := true, apart := false }
def CoderModelsStaySaid : Prop := coderModelsStayRow.holds Try.pinned (OpenSpec.ofChange coderModelsStaySpec)

/-- ITS FALSE NEIGHBOUR: 'it returns false'. Refute it at one input. -/
def coderModelsStayWrong : ChangeSpec := { name := "coderModelsStay", fn := fun _ => fun
  | [d1, d2, d3] => { results := [.lit (.bool false)], args := [d1, d2, d3] }
  | _ => none }
def CoderModelsStayWrongFalsely : Prop := coderModelsStayRow.holds Try.pinned (OpenSpec.ofChange coderModelsStayWrong)

/-- 'voxellaw44.CoderRefusesLongTexts': WHATEVER THE INPUT: true; the input reads as it did. -/
def coderRefusesLongTextsSpec : ChangeSpec := { name := "coderRefusesLongTexts", fn := fun _ => fun
  | [d1, d2, d3] => { results := [.lit (.bool true)], args := [d1, d2, d3] }
  | _ => none }
def coderRefusesLongTextsRow : OpenClaim := { program := "ytpbebmbkcpdbeaa", sum := "b0cbb03709f56cac78a415f136b51cf2df7662093ab611af2b05d787b0c4b69c", func := "voxel/voxellaw44.CoderRefusesLongTexts", spec := "coderRefusesLongTexts", unfollowed := true, recurses := true, apart := false }
def CoderRefusesLongTextsSaid : Prop := coderRefusesLongTextsRow.holds Try.pinned (OpenSpec.ofChange coderRefusesLongTextsSpec)

/-- ITS FALSE NEIGHBOUR: 'it returns false'. Refute it at one input. -/
def coderRefusesLongTextsWrong : ChangeSpec := { name := "coderRefusesLongTexts", fn := fun _ => fun
  | [d1, d2, d3] => { results := [.lit (.bool false)], args := [d1, d2, d3] }
  | _ => none }
def CoderRefusesLongTextsWrongFalsely : Prop := coderRefusesLongTextsRow.holds Try.pinned (OpenSpec.ofChange coderRefusesLongTextsWrong)

/- THE SECOND FORM. 'bulk': how many values and letters a reading holds, each counted each time it is reached (what is shared counts as often as it is met; a slice's spare places count too). A statement '..UptoSaid' is the law's where the arguments, and the package variables that the reading takes, are together of bulk at most 1048576: NARROWER than '..Said'. Prove '..Said' where nothing that the law and all that it calls make is longer than what came in: it says more and counts as full. Else prove '..UptoSaid'. A law counts once. -/
mutual
def uptoBulk {H : Type} : DataW H → Nat
  | .lit (.string bytes) => bytes.length + 1
  | .lit _ => 1
  | .nil => 1
  | .ptr d => uptoBulk d + 1
  | .slice elems spare => uptoBulkAll elems + uptoBulkAll spare + 1
  | .agg parts => uptoBulkAll parts + 1
  | .iface _ d => uptoBulk d + 1
  | .map entries => uptoBulkEntries entries + 1
  | .held _ => 1
def uptoBulkAll {H : Type} : List (DataW H) → Nat
  | [] => 0
  | d :: r => uptoBulk d + uptoBulkAll r
def uptoBulkEntries {H : Type} : List (Lit × DataW H) → Nat
  | [] => 0
  | x :: r => uptoBulkEntry x + uptoBulkEntries r
def uptoBulkEntry {H : Type} : Lit × DataW H → Nat
  | (.string bytes, d) => bytes.length + uptoBulk d + 1
  | (_, d) => uptoBulk d + 1
 end
def uptoSmall : (H : Type) → List (DataW H) → Bool := fun _ ds => decide (uptoBulkAll ds ≤ 1048576)
def OpenSpec.upto (s : _root_.Go.ChangeSpec) : _root_.Go.OpenSpec := { _root_.Go.OpenSpec.ofChange s with cond := some uptoSmall }

/-- 'voxellaw44.CoderEncodesAsSpecified', WHERE WHAT IT READS IS OF BULK AT MOST 1048576: true; the input reads as it did. -/
def coderEncodesAsSpecifiedUptoRow : OpenClaim := { program := "ytpbebmbkcpdbeaa", sum := "b0cbb03709f56cac78a415f136b51cf2df7662093ab611af2b05d787b0c4b69c", func := "voxel/voxellaw44.CoderEncodesAsSpecified", spec := "coderEncodesAsSpecified", unfollowed := true, recurses := true, apart := false, narrowed := true }
def CoderEncodesAsSpecifiedUptoSaid : Prop := coderEncodesAsSpecifiedUptoRow.holds Try.pinned (OpenSpec.upto coderEncodesAsSpecifiedSpec)

/-- 'voxellaw44.CoderDecodesAsSpecified', WHERE WHAT IT READS IS OF BULK AT MOST 1048576: true; the input reads as it did. -/
def coderDecodesAsSpecifiedUptoRow : OpenClaim := { program := "ytpbebmbkcpdbeaa", sum := "b0cbb03709f56cac78a415f136b51cf2df7662093ab611af2b05d787b0c4b69c", func := "voxel/voxellaw44.CoderDecodesAsSpecified", spec := "coderDecodesAsSpecified", unfollowed := true, recurses := true, apart := false, narrowed := true }
def CoderDecodesAsSpecifiedUptoSaid : Prop := coderDecodesAsSpecifiedUptoRow.holds Try.pinned (OpenSpec.upto coderDecodesAsSpecifiedSpec)

/-- 'voxellaw44.CoderTrainsAsSpecified', WHERE WHAT IT READS IS OF BULK AT MOST 1048576: true; the input reads as it did. -/
def coderTrainsAsSpecifiedUptoRow : OpenClaim := { program := "ytpbebmbkcpdbeaa", sum := "b0cbb03709f56cac78a415f136b51cf2df7662093ab611af2b05d787b0c4b69c", func := "voxel/voxellaw44.CoderTrainsAsSpecified", spec := "coderTrainsAsSpecified", unfollowed := true, recurses := true, apart := false, narrowed := true }
def CoderTrainsAsSpecifiedUptoSaid : Prop := coderTrainsAsSpecifiedUptoRow.holds Try.pinned (OpenSpec.upto coderTrainsAsSpecifiedSpec)

/-- 'voxellaw44.CoderRoundTrips', WHERE WHAT IT READS IS OF BULK AT MOST 1048576: true; the input reads as it did. -/
def coderRoundTripsUptoRow : OpenClaim := { program := "ytpbebmbkcpdbeaa", sum := "b0cbb03709f56cac78a415f136b51cf2df7662093ab611af2b05d787b0c4b69c", func := "voxel/voxellaw44.CoderRoundTrips", spec := "coderRoundTrips", unfollowed := true, recurses := true, apart := false, narrowed := true }
def CoderRoundTripsUptoSaid : Prop := coderRoundTripsUptoRow.holds Try.pinned (OpenSpec.upto coderRoundTripsSpec)

/-- 'voxellaw44.CoderNeverExpands', WHERE WHAT IT READS IS OF BULK AT MOST 1048576: true; the input reads as it did. -/
def coderNeverExpandsUptoRow : OpenClaim := { program := "ytpbebmbkcpdbeaa", sum := "b0cbb03709f56cac78a415f136b51cf2df7662093ab611af2b05d787b0c4b69c", func := "voxel/voxellaw44.CoderNeverExpands", spec := "coderNeverExpands", unfollowed := true, recurses := true, apart := false, narrowed := true }
def CoderNeverExpandsUptoSaid : Prop := coderNeverExpandsUptoRow.holds Try.pinned (OpenSpec.upto coderNeverExpandsSpec)

/-- 'voxellaw44.CoderModelsStay', WHERE WHAT IT READS IS OF BULK AT MOST 1048576: true; the input reads as it did. -/
def coderModelsStayUptoRow : OpenClaim := { program := "ytpbebmbkcpdbeaa", sum := "b0cbb03709f56cac78a415f136b51cf2df7662093ab611af2b05d787b0c4b69c", func := "voxel/voxellaw44.CoderModelsStay", spec := "coderModelsStay", unfollowed := true, recurses := true, apart := false, narrowed := true }
def CoderModelsStayUptoSaid : Prop := coderModelsStayUptoRow.holds Try.pinned (OpenSpec.upto coderModelsStaySpec)

/-- 'voxellaw44.CoderRefusesLongTexts', WHERE WHAT IT READS IS OF BULK AT MOST 1048576: true; the input reads as it did. -/
def coderRefusesLongTextsUptoRow : OpenClaim := { program := "ytpbebmbkcpdbeaa", sum := "b0cbb03709f56cac78a415f136b51cf2df7662093ab611af2b05d787b0c4b69c", func := "voxel/voxellaw44.CoderRefusesLongTexts", spec := "coderRefusesLongTexts", unfollowed := true, recurses := true, apart := false, narrowed := true }
def CoderRefusesLongTextsUptoSaid : Prop := coderRefusesLongTextsUptoRow.holds Try.pinned (OpenSpec.upto coderRefusesLongTextsSpec)

end Rows
end Go.Proofs.Ytpbebmbkcpdbeaa
