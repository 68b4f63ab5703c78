/-
  DERIVED. GIVEN WITH THE SEED: THE CARDS: each row of YthhdejjjcaamiaaGreatDoorRows.lean that lists a variable, with what it lists TIED to the program's text (the seventh form; the later family's looks); each row that meets fmt, with fmt's text TOLD by the authors' own Lean function (tested against real Go, not proved from fmt's source: count such statements apart). THE CARD IS WHAT COUNTS. Prove the row's statement (the work); the ties are given (YthhdejjjcaamiaaGreatDoorTie.lean); close each card by the builder's one call (the guide's Derived/Test/ToyasCard.lean, 'card_holds'). Laid BY PROGRAM, IN A SANDBOX (cutbox-door.mjs). By AI agents, Wed Nov 11 2026. No macro, syntax, notation, axiom, sorry.
-/
import Derived.Test.YthhdejjjcaamiaaGreatDoorRows
import GoSem.ClaimSeven
namespace Go.Proofs.YthhdejjjcaamiaaGreatDoor
namespace Rows

/-- THE TIED CARD OF 'clapkeep3.AlignPuts'. -/
def alignPutsCard : Claim7 := { stood := { row := alignPutsRow, standIns := [], harness := (true, "930a271c387a0ab02e4ababfc6725374705862890d88fb342f914bcf9fc7f17b"), looks := true }, kinds := [], alts := [], laidByText := true, laidKinds := [.data, .data, .data, .sentinel, .sentinel], laidTests := true, laidLooks := .later }
def AlignPutsCardSaid : Prop := Claim7.holds Tryz.pinned (.plain (OpenSpec.ofChange alignPutsSpec)) alignPutsCard

/-- THE TIED CARD OF 'clapkeep3.MirrorBoth'. -/
def mirrorBothCard : Claim7 := { stood := { row := mirrorBothRow, standIns := [], harness := (true, "930a271c387a0ab02e4ababfc6725374705862890d88fb342f914bcf9fc7f17b"), looks := true }, kinds := [], alts := [], laidByText := true, laidKinds := [.data, .data, .data, .sentinel, .sentinel], laidTests := true, laidLooks := .later }
def MirrorBothCardSaid : Prop := Claim7.holds Tryz.pinned (.plain (OpenSpec.ofChange mirrorBothSpec)) mirrorBothCard

/-- THE SECOND FORM's CARD OF 'clapkeep3.AlignPuts'. -/
def alignPutsUptoCard : Claim7 := { stood := { row := alignPutsUptoRow, standIns := [], harness := (true, "930a271c387a0ab02e4ababfc6725374705862890d88fb342f914bcf9fc7f17b"), looks := true }, kinds := [], alts := [], laidByText := true, laidKinds := [.data, .data, .data, .sentinel, .sentinel], laidTests := true, laidLooks := .later }
def AlignPutsUptoCardSaid : Prop := Claim7.holds Tryz.pinned (.plain (OpenSpec.upto alignPutsSpec)) alignPutsUptoCard

/-- THE SECOND FORM's CARD OF 'clapkeep3.MirrorBoth'. -/
def mirrorBothUptoCard : Claim7 := { stood := { row := mirrorBothUptoRow, standIns := [], harness := (true, "930a271c387a0ab02e4ababfc6725374705862890d88fb342f914bcf9fc7f17b"), looks := true }, kinds := [], alts := [], laidByText := true, laidKinds := [.data, .data, .data, .sentinel, .sentinel], laidTests := true, laidLooks := .later }
def MirrorBothUptoCardSaid : Prop := Claim7.holds Tryz.pinned (.plain (OpenSpec.upto mirrorBothSpec)) mirrorBothUptoCard
end Rows
end Go.Proofs.YthhdejjjcaamiaaGreatDoor
