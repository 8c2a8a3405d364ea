/-
  DERIVED. GIVEN WITH THE SEED: THE CARDS: each row of YtgjgjimgomhbmaaDoorRows.lean that lists a variable, with what it lists TIED to the program's text (the seventh form; the later family's looks); each row that meets fmt, with fmt's text TOLD by the authors' own Lean function (tested against real Go, not proved from fmt's source: count such statements apart). THE CARD IS WHAT COUNTS. Prove the row's statement (the work); the ties are given (YtgjgjimgomhbmaaDoorTie.lean); close each card by the builder's one call (the guide's Derived/Test/ToyasCard.lean, 'card_holds'). Laid BY PROGRAM, IN A SANDBOX (cutbox-door.mjs). By AI agents, Wed Nov 11 2026. No macro, syntax, notation, axiom, sorry.
-/
import Derived.Test.YtgjgjimgomhbmaaDoorRows
import GoSem.ClaimSeven
namespace Go.Proofs.YtgjgjimgomhbmaaDoor
namespace Rows

/-- THE TIED CARD OF 'voxellaw18.VersionHeadersMatchSpec'. -/
def versionHeadersMatchSpecCard : Claim7 := { stood := { row := versionHeadersMatchSpecRow, standIns := [], harness := (true, "0db16ac468769b122ca3424929b241596824c0f584a98a23e6d76d31992a154f"), looks := true }, kinds := [], alts := [], laidByText := true, laidKinds := [.data, .data], laidTests := true, laidLooks := .later }
def VersionHeadersMatchSpecCardSaid : Prop := Claim7.holds Tryd.pinned (.plain (OpenSpec.ofChange versionHeadersMatchSpecSpec)) versionHeadersMatchSpecCard

/-- THE TIED CARD OF 'voxellaw18.VersionTablesMatchSpec'. -/
def versionTablesMatchSpecCard : Claim7 := { stood := { row := versionTablesMatchSpecRow, standIns := [], harness := (true, "0db16ac468769b122ca3424929b241596824c0f584a98a23e6d76d31992a154f"), looks := true }, kinds := [], alts := [], laidByText := true, laidKinds := [.data, .data], laidTests := true, laidLooks := .later }
def VersionTablesMatchSpecCardSaid : Prop := Claim7.holds Tryd.pinned (.plain (OpenSpec.ofChange versionTablesMatchSpecSpec)) versionTablesMatchSpecCard

/-- THE TIED CARD OF 'voxellaw18.VersionPinsHold'. -/
def versionPinsHoldCard : Claim7 := { stood := { row := versionPinsHoldRow, standIns := [], harness := (true, "0db16ac468769b122ca3424929b241596824c0f584a98a23e6d76d31992a154f"), looks := true }, kinds := [], alts := [], laidByText := true, laidKinds := [.data, .data], laidTests := true, laidLooks := .later }
def VersionPinsHoldCardSaid : Prop := Claim7.holds Tryd.pinned (.plain (OpenSpec.ofChange versionPinsHoldSpec)) versionPinsHoldCard

/-- THE SECOND FORM's CARD OF 'voxellaw18.VersionHeadersMatchSpec'. -/
def versionHeadersMatchSpecUptoCard : Claim7 := { stood := { row := versionHeadersMatchSpecUptoRow, standIns := [], harness := (true, "0db16ac468769b122ca3424929b241596824c0f584a98a23e6d76d31992a154f"), looks := true }, kinds := [], alts := [], laidByText := true, laidKinds := [.data, .data], laidTests := true, laidLooks := .later }
def VersionHeadersMatchSpecUptoCardSaid : Prop := Claim7.holds Tryd.pinned (.plain (OpenSpec.upto versionHeadersMatchSpecSpec)) versionHeadersMatchSpecUptoCard

/-- THE SECOND FORM's CARD OF 'voxellaw18.VersionTablesMatchSpec'. -/
def versionTablesMatchSpecUptoCard : Claim7 := { stood := { row := versionTablesMatchSpecUptoRow, standIns := [], harness := (true, "0db16ac468769b122ca3424929b241596824c0f584a98a23e6d76d31992a154f"), looks := true }, kinds := [], alts := [], laidByText := true, laidKinds := [.data, .data], laidTests := true, laidLooks := .later }
def VersionTablesMatchSpecUptoCardSaid : Prop := Claim7.holds Tryd.pinned (.plain (OpenSpec.upto versionTablesMatchSpecSpec)) versionTablesMatchSpecUptoCard

/-- THE SECOND FORM's CARD OF 'voxellaw18.VersionPinsHold'. -/
def versionPinsHoldUptoCard : Claim7 := { stood := { row := versionPinsHoldUptoRow, standIns := [], harness := (true, "0db16ac468769b122ca3424929b241596824c0f584a98a23e6d76d31992a154f"), looks := true }, kinds := [], alts := [], laidByText := true, laidKinds := [.data, .data], laidTests := true, laidLooks := .later }
def VersionPinsHoldUptoCardSaid : Prop := Claim7.holds Tryd.pinned (.plain (OpenSpec.upto versionPinsHoldSpec)) versionPinsHoldUptoCard
end Rows
end Go.Proofs.YtgjgjimgomhbmaaDoor
