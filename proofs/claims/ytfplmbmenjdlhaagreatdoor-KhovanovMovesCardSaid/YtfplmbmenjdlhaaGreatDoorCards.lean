/-
  DERIVED. GIVEN WITH THE SEED: THE CARDS: each row of YtfplmbmenjdlhaaGreatDoorRows.lean that lists a variable, with what it lists TIED to the program's text (the seventh form; the later family's looks); each row that meets fmt, with fmt's text TOLD by the authors' own Lean function (tested against real Go, not proved from fmt's source: count such statements apart). THE CARD IS WHAT COUNTS. Prove the row's statement (the work); the ties are given (YtfplmbmenjdlhaaGreatDoorTie.lean); close each card by the builder's one call (the guide's Derived/Test/ToyasCard.lean, 'card_holds'). Laid BY PROGRAM, IN A SANDBOX (cutbox-door.mjs). By AI agents, Wed Nov 11 2026. No macro, syntax, notation, axiom, sorry.
-/
import Derived.Test.YtfplmbmenjdlhaaGreatDoorRows
import GoSem.ClaimSeven
namespace Go.Proofs.YtfplmbmenjdlhaaGreatDoor
namespace Rows

/-- THE TIED CARD OF 'knotworkkeep.KhovanovMoves'. -/
def khovanovMovesCard : Claim7 := { stood := { row := khovanovMovesRow, standIns := [], harness := (true, "2413e19f210da063431bcd24d971991d48cc9430a75832d00facdd3093d182fe"), looks := true }, kinds := [], alts := [], laidByText := true, laidKinds := [.data, .data], laidTests := true, laidLooks := .later }
def KhovanovMovesCardSaid : Prop := Claim7.holds Tryz.pinned (.plain (OpenSpec.ofChange khovanovMovesSpec)) khovanovMovesCard

/-- THE SECOND FORM's CARD OF 'knotworkkeep.KhovanovMoves'. -/
def khovanovMovesUptoCard : Claim7 := { stood := { row := khovanovMovesUptoRow, standIns := [], harness := (true, "2413e19f210da063431bcd24d971991d48cc9430a75832d00facdd3093d182fe"), looks := true }, kinds := [], alts := [], laidByText := true, laidKinds := [.data, .data], laidTests := true, laidLooks := .later }
def KhovanovMovesUptoCardSaid : Prop := Claim7.holds Tryz.pinned (.plain (OpenSpec.upto khovanovMovesSpec)) khovanovMovesUptoCard
end Rows
end Go.Proofs.YtfplmbmenjdlhaaGreatDoor
