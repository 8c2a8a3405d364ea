/-
  DERIVED. GIVEN WITH THE SEED: THE CARDS: each row of YtgjgjimgomhbmaaGreatDoorRows.lean that lists a variable, with what it lists TIED to the program's text (the seventh form; the later family's looks); each row that meets fmt, with fmt's text TOLD by the authors' own Lean function (tested against real Go, not proved from fmt's source: count such statements apart). THE CARD IS WHAT COUNTS. Prove the row's statement (the work); the ties are given (YtgjgjimgomhbmaaGreatDoorTie.lean); close each card by the builder's one call (the guide's Derived/Test/ToyasCard.lean, 'card_holds'). Laid BY PROGRAM, IN A SANDBOX (cutbox-door.mjs). By AI agents, Wed Nov 11 2026. No macro, syntax, notation, axiom, sorry.
-/
import Derived.Test.YtgjgjimgomhbmaaGreatDoorRows
import GoSem.ClaimSeven
namespace Go.Proofs.YtgjgjimgomhbmaaGreatDoor
namespace Rows

/-- THE TIED CARD OF 'voxellaw18.VersionSignsAsSpecified'. -/
def versionSignsAsSpecifiedCard : Claim7 := { stood := { row := versionSignsAsSpecifiedRow, standIns := [], harness := (true, "b457850cf229ff81396b72ed1f0ffa5f44a64784405d25ed18a18feed028708c"), looks := true }, kinds := [], alts := [], laidByText := true, laidKinds := [.data, .data], laidTests := true, laidLooks := .later }
def VersionSignsAsSpecifiedCardSaid : Prop := Claim7.holds Tryz.pinned (.plain (OpenSpec.ofChange versionSignsAsSpecifiedSpec)) versionSignsAsSpecifiedCard

/-- THE TIED CARD OF 'voxellaw18.VersionRoundTrips'. -/
def versionRoundTripsCard : Claim7 := { stood := { row := versionRoundTripsRow, standIns := [], harness := (true, "b457850cf229ff81396b72ed1f0ffa5f44a64784405d25ed18a18feed028708c"), looks := true }, kinds := [], alts := [], laidByText := true, laidKinds := [.data, .data], laidTests := true, laidLooks := .later }
def VersionRoundTripsCardSaid : Prop := Claim7.holds Tryz.pinned (.plain (OpenSpec.ofChange versionRoundTripsSpec)) versionRoundTripsCard

/-- THE SECOND FORM's CARD OF 'voxellaw18.VersionSignsAsSpecified'. -/
def versionSignsAsSpecifiedUptoCard : Claim7 := { stood := { row := versionSignsAsSpecifiedUptoRow, standIns := [], harness := (true, "b457850cf229ff81396b72ed1f0ffa5f44a64784405d25ed18a18feed028708c"), looks := true }, kinds := [], alts := [], laidByText := true, laidKinds := [.data, .data], laidTests := true, laidLooks := .later }
def VersionSignsAsSpecifiedUptoCardSaid : Prop := Claim7.holds Tryz.pinned (.plain (OpenSpec.upto versionSignsAsSpecifiedSpec)) versionSignsAsSpecifiedUptoCard

/-- THE SECOND FORM's CARD OF 'voxellaw18.VersionRoundTrips'. -/
def versionRoundTripsUptoCard : Claim7 := { stood := { row := versionRoundTripsUptoRow, standIns := [], harness := (true, "b457850cf229ff81396b72ed1f0ffa5f44a64784405d25ed18a18feed028708c"), looks := true }, kinds := [], alts := [], laidByText := true, laidKinds := [.data, .data], laidTests := true, laidLooks := .later }
def VersionRoundTripsUptoCardSaid : Prop := Claim7.holds Tryz.pinned (.plain (OpenSpec.upto versionRoundTripsSpec)) versionRoundTripsUptoCard
end Rows
end Go.Proofs.YtgjgjimgomhbmaaGreatDoor
