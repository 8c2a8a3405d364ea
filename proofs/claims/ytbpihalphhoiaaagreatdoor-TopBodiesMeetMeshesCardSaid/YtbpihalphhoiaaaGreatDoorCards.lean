/-
  DERIVED. GIVEN WITH THE SEED: THE CARDS: each row of YtbpihalphhoiaaaGreatDoorRows.lean that lists a variable, with what it lists TIED to the program's text (the seventh form; the later family's looks); each row that meets fmt, with fmt's text TOLD by the authors' own Lean function (tested against real Go, not proved from fmt's source: count such statements apart). THE CARD IS WHAT COUNTS. Prove the row's statement (the work); the ties are given (YtbpihalphhoiaaaGreatDoorTie.lean); close each card by the builder's one call (the guide's Derived/Test/ToyasCard.lean, 'card_holds'). Laid BY PROGRAM, IN A SANDBOX (cutbox-door.mjs). By AI agents, Wed Nov 11 2026. No macro, syntax, notation, axiom, sorry.
-/
import Derived.Test.YtbpihalphhoiaaaGreatDoorRows
import GoSem.ClaimSeven
namespace Go.Proofs.YtbpihalphhoiaaaGreatDoor
namespace Rows

/-- THE TIED CARD OF 'voxeltop.TopBodiesMeetMeshes'. -/
def topBodiesMeetMeshesCard : Claim7 := { stood := { row := topBodiesMeetMeshesRow, standIns := [], harness := (true, "907f95ba56d0b15a8f33a80390e6734ffdd15e4a9c52cf420ff99d8c3d32e687"), looks := false }, kinds := [], alts := [], laidByText := true, laidKinds := [.data], laidTests := true, laidLooks := .later }
def TopBodiesMeetMeshesCardSaid : Prop := Claim7.holds Tryz.pinned (.plain (OpenSpec.ofChange topBodiesMeetMeshesSpec)) topBodiesMeetMeshesCard

/-- THE TIED CARD OF 'voxeltop.TopRaysHitSquares'. -/
def topRaysHitSquaresCard : Claim7 := { stood := { row := topRaysHitSquaresRow, standIns := [], harness := (true, "907f95ba56d0b15a8f33a80390e6734ffdd15e4a9c52cf420ff99d8c3d32e687"), looks := false }, kinds := [], alts := [], laidByText := true, laidKinds := [.data], laidTests := true, laidLooks := .later }
def TopRaysHitSquaresCardSaid : Prop := Claim7.holds Tryz.pinned (.plain (OpenSpec.ofChange topRaysHitSquaresSpec)) topRaysHitSquaresCard

/-- THE SECOND FORM's CARD OF 'voxeltop.TopBodiesMeetMeshes'. -/
def topBodiesMeetMeshesUptoCard : Claim7 := { stood := { row := topBodiesMeetMeshesUptoRow, standIns := [], harness := (true, "907f95ba56d0b15a8f33a80390e6734ffdd15e4a9c52cf420ff99d8c3d32e687"), looks := false }, kinds := [], alts := [], laidByText := true, laidKinds := [.data], laidTests := true, laidLooks := .later }
def TopBodiesMeetMeshesUptoCardSaid : Prop := Claim7.holds Tryz.pinned (.plain (OpenSpec.upto topBodiesMeetMeshesSpec)) topBodiesMeetMeshesUptoCard

/-- THE SECOND FORM's CARD OF 'voxeltop.TopRaysHitSquares'. -/
def topRaysHitSquaresUptoCard : Claim7 := { stood := { row := topRaysHitSquaresUptoRow, standIns := [], harness := (true, "907f95ba56d0b15a8f33a80390e6734ffdd15e4a9c52cf420ff99d8c3d32e687"), looks := false }, kinds := [], alts := [], laidByText := true, laidKinds := [.data], laidTests := true, laidLooks := .later }
def TopRaysHitSquaresUptoCardSaid : Prop := Claim7.holds Tryz.pinned (.plain (OpenSpec.upto topRaysHitSquaresSpec)) topRaysHitSquaresUptoCard
end Rows
end Go.Proofs.YtbpihalphhoiaaaGreatDoor
