/-
  DERIVED. GIVEN WITH THE SEED: THE CARDS: each row of YtnjgakngmbbmfaaGreatDoorRows.lean that lists a variable, with what it lists TIED to the program's text (the seventh form; the later family's looks); each row that meets fmt, with fmt's text TOLD by the authors' own Lean function (tested against real Go, not proved from fmt's source: count such statements apart). THE CARD IS WHAT COUNTS. Prove the row's statement (the work); the ties are given (YtnjgakngmbbmfaaGreatDoorTie.lean); close each card by the builder's one call (the guide's Derived/Test/ToyasCard.lean, 'card_holds'). Laid BY PROGRAM, IN A SANDBOX (cutbox-door.mjs). By AI agents, Wed Nov 11 2026. No macro, syntax, notation, axiom, sorry.
-/
import Derived.Test.YtnjgakngmbbmfaaGreatDoorRows
import GoSem.ClaimSeven
namespace Go.Proofs.YtnjgakngmbbmfaaGreatDoor
namespace Rows

/-- THE TIED CARD OF 'clapkeep3.LensTextFixed'. -/
def lensTextFixedCard : Claim7 := { stood := { row := lensTextFixedRow, standIns := [], harness := (true, "00fb1fa5b83b8e90f3cbd6bbfa7a673eb50e5e8aff364a494209154c47e37439"), looks := true }, kinds := [], alts := [], laidByText := true, laidKinds := [.data, .data, .data, .data, .sentinel, .sentinel, .pinned], laidTests := true, laidLooks := .later }
def LensTextFixedCardSaid : Prop := Claim7.holds Tryz.pinned (.plain (OpenSpec.ofChange lensTextFixedSpec)) lensTextFixedCard

/-- THE TIED CARD OF 'clapkeep3.LensTextBack'. -/
def lensTextBackCard : Claim7 := { stood := { row := lensTextBackRow, standIns := [], harness := (true, "00fb1fa5b83b8e90f3cbd6bbfa7a673eb50e5e8aff364a494209154c47e37439"), looks := true }, kinds := [], alts := [], laidByText := true, laidKinds := [.data, .data, .data, .data, .sentinel, .sentinel, .pinned], laidTests := true, laidLooks := .later }
def LensTextBackCardSaid : Prop := Claim7.holds Tryz.pinned (.plain (OpenSpec.ofChange lensTextBackSpec)) lensTextBackCard

/-- THE SECOND FORM's CARD OF 'clapkeep3.LensTextFixed'. -/
def lensTextFixedUptoCard : Claim7 := { stood := { row := lensTextFixedUptoRow, standIns := [], harness := (true, "00fb1fa5b83b8e90f3cbd6bbfa7a673eb50e5e8aff364a494209154c47e37439"), looks := true }, kinds := [], alts := [], laidByText := true, laidKinds := [.data, .data, .data, .data, .sentinel, .sentinel, .pinned], laidTests := true, laidLooks := .later }
def LensTextFixedUptoCardSaid : Prop := Claim7.holds Tryz.pinned (.plain (OpenSpec.upto lensTextFixedSpec)) lensTextFixedUptoCard

/-- THE SECOND FORM's CARD OF 'clapkeep3.LensTextBack'. -/
def lensTextBackUptoCard : Claim7 := { stood := { row := lensTextBackUptoRow, standIns := [], harness := (true, "00fb1fa5b83b8e90f3cbd6bbfa7a673eb50e5e8aff364a494209154c47e37439"), looks := true }, kinds := [], alts := [], laidByText := true, laidKinds := [.data, .data, .data, .data, .sentinel, .sentinel, .pinned], laidTests := true, laidLooks := .later }
def LensTextBackUptoCardSaid : Prop := Claim7.holds Tryz.pinned (.plain (OpenSpec.upto lensTextBackSpec)) lensTextBackUptoCard
end Rows
end Go.Proofs.YtnjgakngmbbmfaaGreatDoor
