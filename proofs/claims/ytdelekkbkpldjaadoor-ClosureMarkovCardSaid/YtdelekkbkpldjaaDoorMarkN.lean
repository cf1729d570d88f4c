/- A package variable that is an array of arrays of arrays of ints. -/
import Derived.Lib.LaidTab
import Derived.Lib.LaidU8
import Derived.Test.YtdelekkbkpldjaaDoorQ12
namespace Go.Proofs.YtdelekkbkpldjaaDoor
open Go.RowKit

theorem cells_nested {H : Type} {enc : TypeId × Value → H} {P : Program} {w : World} {base : Nat} {sp : Nat → Bool} {held : Bool} {fuel : Nat} {t e : TypeId} {n m : Nat} {cs : List Value} {ds : List (DataW H)} {p : List MemPlace}
    (ht : P.underlying t = some (.array n e)) (hce : P.cellsOf e = m) (hct : P.cellsOf t = n * m)
    (h : DataW.trod enc P w base sp held fuel t cs = some (.agg ds, p)) : cs.length = n * m ∧ ∀ i, i < n → ∀ d, ds[i]? = some d → ∃ f' p', DataW.trod enc P w base sp held f' e ((cs.drop (i * m)).take m) = some (d, p') := by
  cases fuel with
  | zero => simp [DataW.trod] at h
  | succ fuel =>
    simp only [DataW.trod, ht, hce, hct] at h
    split at h
    · rename_i hl
      refine ⟨hl, fun i hi d hd => ?_⟩
      obtain ⟨xs, hm, hx⟩ := Option.map_eq_some_iff.1 h
      obtain ⟨b, hb, hf⟩ := Lib.mapM_at hm i i (by simp [hi])
      have hxs : xs.map (·.1) = ds := by
        have := congrArg Prod.fst hx
        simpa using this
      have : (xs.map (·.1))[i]? = some b.1 := by simp [hb]
      rw [hxs, hd] at this
      cases this
      exact ⟨fuel, b.2, hf⟩
    · cases h
end Go.Proofs.YtdelekkbkpldjaaDoor
