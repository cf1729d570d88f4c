/-
  DERIVED. GIVEN WITH THE SEED: THE CARDS: each row of YteedpdlibhjhpaaDoorRows.lean that lists a variable, with what it lists TIED to the program's text (the seventh form; the later family's looks); each row that meets fmt, with fmt's text TOLD by the authors' own Lean function (tested against real Go, not proved from fmt's source: count such statements apart). THE CARD IS WHAT COUNTS. Prove the row's statement (the work); the ties are given (YteedpdlibhjhpaaDoorTie.lean); close each card by the builder's one call (the guide's Derived/Test/ToyasCard.lean, 'card_holds'). Laid BY PROGRAM, IN A SANDBOX (cutbox-door.mjs). By AI agents, Wed Nov 11 2026. No macro, syntax, notation, axiom, sorry.
-/
import Derived.Test.YteedpdlibhjhpaaDoorRows
import GoSem.ClaimSeven
namespace Go.Proofs.YteedpdlibhjhpaaDoor
namespace Rows

/-- THE TIED CARD OF 'knotworkkeep.TangleSchubert'. -/
def tangleSchubertCard : Claim7 := { stood := { row := tangleSchubertRow, standIns := [], harness := (true, "479ce10b355e577b4e64d012ef4a7bb66ab35cfba3086901ccfdc52c4b048373"), looks := true }, kinds := [], alts := [], laidByText := true, laidKinds := [.data], laidTests := true, laidLooks := .later }
def TangleSchubertCardSaid : Prop := Claim7.holds Tryd.pinned (.plain (OpenSpec.ofChange tangleSchubertSpec)) tangleSchubertCard

/-- THE SECOND FORM's CARD OF 'knotworkkeep.TangleSchubert'. -/
def tangleSchubertUptoCard : Claim7 := { stood := { row := tangleSchubertUptoRow, standIns := [], harness := (true, "479ce10b355e577b4e64d012ef4a7bb66ab35cfba3086901ccfdc52c4b048373"), looks := true }, kinds := [], alts := [], laidByText := true, laidKinds := [.data], laidTests := true, laidLooks := .later }
def TangleSchubertUptoCardSaid : Prop := Claim7.holds Tryd.pinned (.plain (OpenSpec.upto tangleSchubertSpec)) tangleSchubertUptoCard
end Rows
end Go.Proofs.YteedpdlibhjhpaaDoor
