/- What comes in: a slice of numbers, as the walks want it. -/
import Derived.Test.YtgjmjbgicfkojaaW34
import Derived.Test.YtgjmjbgicfkojaaWIn
namespace Go.Proofs.Ytgjmjbgicfkojaa
open Go.ChangeShapes Go.WideShapes Go.Deep Go.RowKit

set_option maxRecDepth 100000 in
theorem ints_in {H : Type} {enc : TypeId × Value → H} {w : World} {sp : Nat → Bool} {base : Nat} {v : Value} {d : DataW H} {p : List MemPlace} (hv : Value.okWide Try.prog w .any base 35 v) (h : DataW.Trod enc Try.prog w 0 sp true 35 v d p) :
    ∃ a c zs, v = .slice a zs.length c ∧ RawAt w a zs := by
  obtain ⟨a, len, cap, rfl⟩ := okWide_slice Try.underlying35 hv
  obtain ⟨fuel, hf⟩ := h
  rcases open_ints Try.underlying35 Try.underlying3 Try.cells3 hf with ⟨hcs, _⟩ | ⟨x, l, c, zs, hcs, _, hl, hm, hz, _, hcell, hwz⟩
  · simp [Value.cells] at hcs
    obtain ⟨rfl, rfl, rfl⟩ := hcs
    exact ⟨none, 0, [], rfl, .inl rfl, fun i => by simp, fun i => by simp, by simp⟩
  · simp [Value.cells] at hcs
    obtain ⟨rfl, rfl, rfl⟩ := hcs
    have hlz : len ≤ zs.length := by rw [hz]; split <;> omega
    have hb : ∀ i, -9223372036854775808 ≤ (zs.take len).getD i 0 ∧ (zs.take len).getD i 0 ≤ 9223372036854775807 := fun i => by
      by_cases hi : i < (zs.take len).length
      · have hmem : (zs.take len)[i] ∈ zs := List.mem_of_mem_take (List.getElem_mem hi)
        have := bounds_i64 (hwz _ hmem)
        rw [List.getD_eq_getElem?_getD, List.getElem?_eq_getElem hi]
        simp only [Option.getD_some]
        omega
      · rw [List.getD_eq_getElem?_getD, List.getElem?_eq_none (by omega)]
        simp
    have hlen : (zs.take len).length = len := by rw [List.length_take]; omega
    refine ⟨some x, cap, zs.take len, by rw [hlen], ?_, fun i => (hb i).1, fun i => (hb i).2, by rw [hlen]; unfold maxLen at hm; omega⟩
    by_cases h0 : len = 0
    · left; subst h0; simp
    · right
      have h1 := hcell 0 (by omega)
      obtain ⟨b, o, t⟩ := x
      have ht : t = none := by simpa [Addr.add] using World.cell?_spot h1
      subst ht
      refine ⟨b, o, rfl, fun i hi => ?_⟩
      rw [hlen] at hi
      have := hcell i (by omega)
      rw [addr_add] at this
      rw [this]
      simp [List.getD_eq_getElem?_getD, hi]
end Go.Proofs.Ytgjmjbgicfkojaa
