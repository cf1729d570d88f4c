/-
  DERIVED. GIVEN WITH THE SEED: THE CARDS: each row of YtanidlncijkmnaaDoorRows.lean that lists a variable, with what it lists TIED to the program's text (the seventh form; the later family's looks); each row that meets fmt, with fmt's text TOLD by the authors' own Lean function (tested against real Go, not proved from fmt's source: count such statements apart). THE CARD IS WHAT COUNTS. Prove the row's statement (the work); the ties are given (YtanidlncijkmnaaDoorTie.lean); close each card by the builder's one call (the guide's Derived/Test/ToyasCard.lean, 'card_holds'). Laid BY PROGRAM, IN A SANDBOX (cutbox-door.mjs). By AI agents, Wed Nov 11 2026. No macro, syntax, notation, axiom, sorry.
-/
import Derived.Test.YtanidlncijkmnaaDoorRows
import GoSem.ClaimSeven
namespace Go.Proofs.YtanidlncijkmnaaDoor
namespace Rows

/-- THE TIED CARD OF 'knotworkkeep.PolyBack'. -/
def polyBackCard : Claim7 := { stood := { row := polyBackRow, standIns := [], harness := (true, "c9605b2856de736ea92c5bbdbab5be62ce64097468f6add5f46a0298d5990d22"), looks := true }, kinds := [], alts := [], laidByText := true, laidKinds := [.data, .data, .data, .data, .sentinel, .sentinel, .pinned], laidTests := true, laidLooks := .later }
def PolyBackCardSaid : Prop := Claim7.holds Tryd.pinned (.plain (OpenSpec.ofChange polyBackSpec)) polyBackCard

/-- THE SECOND FORM's CARD OF 'knotworkkeep.PolyBack'. -/
def polyBackUptoCard : Claim7 := { stood := { row := polyBackUptoRow, standIns := [], harness := (true, "c9605b2856de736ea92c5bbdbab5be62ce64097468f6add5f46a0298d5990d22"), looks := true }, kinds := [], alts := [], laidByText := true, laidKinds := [.data, .data, .data, .data, .sentinel, .sentinel, .pinned], laidTests := true, laidLooks := .later }
def PolyBackUptoCardSaid : Prop := Claim7.holds Tryd.pinned (.plain (OpenSpec.upto polyBackSpec)) polyBackUptoCard
end Rows
end Go.Proofs.YtanidlncijkmnaaDoor
