/-
  DERIVED. GIVEN WITH THE SEED: THE PROGRAM's TIES (one call each: nine closed facts by the kernel) AND EACH ROW's TIE, after the 31st guide's Derived/Test/Toyas{Tie, Card}.lean. No idea stands in it: it is a product of the set-up. Laid BY PROGRAM, IN A SANDBOX (cutbox-door.mjs). By AI agents, Wed Nov 11 2026. No macro, syntax, notation, axiom, sorry.
-/
import Derived.Test.YtdelekkbkpldjaaDoorRows
import Derived.LaidByTextLater
import Derived.SevenTiedAt
import Derived.LaidSub
import Derived.LaidOnce
namespace Go.Proofs.YtdelekkbkpldjaaDoor
open Go
set_option maxRecDepth 100000
theorem seatTie1 : Tryd.prog.laidByTextLater [("knotwork/bracket.tied", Rows.laid_knotwork_bracket_tied), ("knotwork/knotworkkeep.wrong", Rows.laid_knotwork_knotworkkeep_wrong)] [.data, .data] true :=
  Program.laidByTextLater_by_one 25 8 9 (by kernel_rfl) (by kernel_rfl) (by kernel_rfl) (by kernel_rfl) (by kernel_rfl) (by kernel_rfl) (fun _ _ => by kernel_rfl)
theorem noOwnUnsafe : Tryd.pinned.checked.prog.headLifts.contains "ownunsafe" = false := by kernel_rfl
theorem tie : Tryd.prog.laidByTextLater [("knotwork/bracket.tied", Rows.laid_knotwork_bracket_tied)] [.data] true :=
  Program.laidByTextLater.sub seatTie1 ["knotwork/bracket.tied"] (by kernel_rfl) (by kernel_rfl)
theorem closureMarkov_row_tie : Rows.closureMarkovRow.laidByTextAt .later Tryd.pinned [.data] true :=
  OpenClaim.laidByTextAt_later rfl rfl tie noOwnUnsafe
theorem tie2 : Tryd.prog.laidByTextLater [("knotwork/knotworkkeep.wrong", Rows.laid_knotwork_knotworkkeep_wrong)] [.data] true :=
  Program.laidByTextLater.sub seatTie1 ["knotwork/knotworkkeep.wrong"] (by kernel_rfl) (by kernel_rfl)
theorem closureBurau_row_tie : Rows.closureBurauRow.laidByTextAt .later Tryd.pinned [.data] true :=
  OpenClaim.laidByTextAt_later rfl rfl tie2 noOwnUnsafe
theorem closureMarkovUpto_row_tie : Rows.closureMarkovUptoRow.laidByTextAt .later Tryd.pinned [.data] true :=
  OpenClaim.laidByTextAt_later rfl rfl tie noOwnUnsafe
theorem closureBurauUpto_row_tie : Rows.closureBurauUptoRow.laidByTextAt .later Tryd.pinned [.data] true :=
  OpenClaim.laidByTextAt_later rfl rfl tie2 noOwnUnsafe
end Go.Proofs.YtdelekkbkpldjaaDoor
