/-
  DERIVED. GIVEN WITH THE SEED: THE CARDS: each row of YtdelekkbkpldjaaDoorRows.lean that lists a variable, with what it lists TIED to the program's text (the seventh form; the later family's looks); each row that meets fmt, with fmt's text TOLD by the authors' own Lean function (tested against real Go, not proved from fmt's source: count such statements apart). THE CARD IS WHAT COUNTS. Prove the row's statement (the work); the ties are given (YtdelekkbkpldjaaDoorTie.lean); close each card by the builder's one call (the guide's Derived/Test/ToyasCard.lean, 'card_holds'). Laid BY PROGRAM, IN A SANDBOX (cutbox-door.mjs). By AI agents, Wed Nov 11 2026. No macro, syntax, notation, axiom, sorry.
-/
import Derived.Test.YtdelekkbkpldjaaDoorRows
import GoSem.ClaimSeven
namespace Go.Proofs.YtdelekkbkpldjaaDoor
namespace Rows

/-- THE TIED CARD OF 'knotworkkeep.ClosureMarkov'. -/
def closureMarkovCard : Claim7 := { stood := { row := closureMarkovRow, standIns := [], harness := (true, "a61b2dd8aca86ded3a5c2c66ec22591eae43cd8b3ef339077d4fc448783b9f38"), looks := true }, kinds := [], alts := [], laidByText := true, laidKinds := [.data], laidTests := true, laidLooks := .later }
def ClosureMarkovCardSaid : Prop := Claim7.holds Tryd.pinned (.plain (OpenSpec.ofChange closureMarkovSpec)) closureMarkovCard

/-- THE TIED CARD OF 'knotworkkeep.ClosureBurau'. -/
def closureBurauCard : Claim7 := { stood := { row := closureBurauRow, standIns := [], harness := (true, "a61b2dd8aca86ded3a5c2c66ec22591eae43cd8b3ef339077d4fc448783b9f38"), looks := true }, kinds := [], alts := [], laidByText := true, laidKinds := [.data], laidTests := true, laidLooks := .later }
def ClosureBurauCardSaid : Prop := Claim7.holds Tryd.pinned (.plain (OpenSpec.ofChange closureBurauSpec)) closureBurauCard

/-- THE SECOND FORM's CARD OF 'knotworkkeep.ClosureMarkov'. -/
def closureMarkovUptoCard : Claim7 := { stood := { row := closureMarkovUptoRow, standIns := [], harness := (true, "a61b2dd8aca86ded3a5c2c66ec22591eae43cd8b3ef339077d4fc448783b9f38"), looks := true }, kinds := [], alts := [], laidByText := true, laidKinds := [.data], laidTests := true, laidLooks := .later }
def ClosureMarkovUptoCardSaid : Prop := Claim7.holds Tryd.pinned (.plain (OpenSpec.upto closureMarkovSpec)) closureMarkovUptoCard

/-- THE SECOND FORM's CARD OF 'knotworkkeep.ClosureBurau'. -/
def closureBurauUptoCard : Claim7 := { stood := { row := closureBurauUptoRow, standIns := [], harness := (true, "a61b2dd8aca86ded3a5c2c66ec22591eae43cd8b3ef339077d4fc448783b9f38"), looks := true }, kinds := [], alts := [], laidByText := true, laidKinds := [.data], laidTests := true, laidLooks := .later }
def ClosureBurauUptoCardSaid : Prop := Claim7.holds Tryd.pinned (.plain (OpenSpec.upto closureBurauSpec)) closureBurauUptoCard
end Rows
end Go.Proofs.YtdelekkbkpldjaaDoor
