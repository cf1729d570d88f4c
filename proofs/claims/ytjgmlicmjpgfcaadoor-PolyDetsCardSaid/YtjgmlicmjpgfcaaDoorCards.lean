/-
  DERIVED. GIVEN WITH THE SEED: THE CARDS: each row of YtjgmlicmjpgfcaaDoorRows.lean that lists a variable, with what it lists TIED to the program's text (the seventh form; the later family's looks); each row that meets fmt, with fmt's text TOLD by the authors' own Lean function (tested against real Go, not proved from fmt's source: count such statements apart). THE CARD IS WHAT COUNTS. Prove the row's statement (the work); the ties are given (YtjgmlicmjpgfcaaDoorTie.lean); close each card by the builder's one call (the guide's Derived/Test/ToyasCard.lean, 'card_holds'). Laid BY PROGRAM, IN A SANDBOX (cutbox-door.mjs). By AI agents, Wed Nov 11 2026. No macro, syntax, notation, axiom, sorry.
-/
import Derived.Test.YtjgmlicmjpgfcaaDoorRows
import GoSem.ClaimSeven
namespace Go.Proofs.YtjgmlicmjpgfcaaDoor
namespace Rows

/-- THE TIED CARD OF 'knotworkkeep.PolyRing'. -/
def polyRingCard : Claim7 := { stood := { row := polyRingRow, standIns := [], harness := (true, "237558286299c19651cc1d1a298984867e57b21c40a8f4ce0c7d0d1ec6b62306"), looks := true }, kinds := [], alts := [], laidByText := true, laidKinds := [.data], laidTests := true, laidLooks := .later }
def PolyRingCardSaid : Prop := Claim7.holds Tryd.pinned (.plain (OpenSpec.ofChange polyRingSpec)) polyRingCard

/-- THE TIED CARD OF 'knotworkkeep.PolyDets'. -/
def polyDetsCard : Claim7 := { stood := { row := polyDetsRow, standIns := [], harness := (true, "237558286299c19651cc1d1a298984867e57b21c40a8f4ce0c7d0d1ec6b62306"), looks := true }, kinds := [], alts := [], laidByText := true, laidKinds := [.data], laidTests := true, laidLooks := .later }
def PolyDetsCardSaid : Prop := Claim7.holds Tryd.pinned (.plain (OpenSpec.ofChange polyDetsSpec)) polyDetsCard

/-- THE SECOND FORM's CARD OF 'knotworkkeep.PolyRing'. -/
def polyRingUptoCard : Claim7 := { stood := { row := polyRingUptoRow, standIns := [], harness := (true, "237558286299c19651cc1d1a298984867e57b21c40a8f4ce0c7d0d1ec6b62306"), looks := true }, kinds := [], alts := [], laidByText := true, laidKinds := [.data], laidTests := true, laidLooks := .later }
def PolyRingUptoCardSaid : Prop := Claim7.holds Tryd.pinned (.plain (OpenSpec.upto polyRingSpec)) polyRingUptoCard

/-- THE SECOND FORM's CARD OF 'knotworkkeep.PolyDets'. -/
def polyDetsUptoCard : Claim7 := { stood := { row := polyDetsUptoRow, standIns := [], harness := (true, "237558286299c19651cc1d1a298984867e57b21c40a8f4ce0c7d0d1ec6b62306"), looks := true }, kinds := [], alts := [], laidByText := true, laidKinds := [.data], laidTests := true, laidLooks := .later }
def PolyDetsUptoCardSaid : Prop := Claim7.holds Tryd.pinned (.plain (OpenSpec.upto polyDetsSpec)) polyDetsUptoCard
end Rows
end Go.Proofs.YtjgmlicmjpgfcaaDoor
