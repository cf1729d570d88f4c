/- What comes in: a diagram, as the walks want it. -/
import Derived.ProofKit
import Derived.OpenShut
import Derived.ChangeOld
import Derived.Below
import Derived.Deep.Slices
import Derived.Test.YtlicglicfijelaaW14
namespace Go.Proofs.Ytlicglicfijelaa
open Go.ChangeShapes Go.WideShapes Go.Deep Go.RowKit

theorem Try.cells24 : Try.prog.cellsOf 24 = 2 := by kernel_rfl
theorem Try.cells58 : Try.prog.cellsOf 58 = 5 := by kernel_rfl
theorem Try.cells22 : Try.prog.cellsOf 22 = 1 := by kernel_rfl
theorem Try.cells3 : Try.prog.cellsOf 3 = 1 := by kernel_rfl
theorem Try.cells4 : Try.prog.cellsOf 4 = 1 := by kernel_rfl
set_option maxRecDepth 100000 in
theorem cross_in {H : Type} {enc : TypeId × Value → H} {w : World} {sp : Nat → Bool} {n : Nat} {cs : List Value} {x : DataW H × List MemPlace} (h : DataW.trod enc Try.prog w 0 sp true n 58 cs = some x) :
    ∃ y : Kn.Cr, cs = [.int .i64 y.a, .int .i64 y.b, .int .i64 y.c, .int .i64 y.d, .bool y.p] := by
  obtain ⟨xs, k, _, _, hl, hxl, hf⟩ := DataW.trod_struct Try.underlying58 h
  rw [Try.cells58] at hl
  match cs, hl, xs, hxl with
  | [c0, c1, c2, c3, c4], _, [y0, y1, y2, y3, y4], _ =>
    have g0 := hf 0 _ rfl
    have g1 := hf 1 _ rfl
    have g2 := hf 2 _ rfl
    have g3 := hf 3 _ rfl
    have g4 := hf 4 _ rfl
    simp [Try.cells3, Try.cells4] at g0 g1 g2 g3 g4
    obtain ⟨n0, e0, _, _⟩ := DataW.trod_int Try.underlying3 g0
    obtain ⟨n1, e1, _, _⟩ := DataW.trod_int Try.underlying3 g1
    obtain ⟨n2, e2, _, _⟩ := DataW.trod_int Try.underlying3 g2
    obtain ⟨n3, e3, _, _⟩ := DataW.trod_int Try.underlying3 g3
    obtain ⟨b4, e4, _⟩ := DataW.trod_bool Try.underlying4 g4
    simp only [List.cons.injEq, and_true] at e0 e1 e2 e3 e4
    subst e0 e1 e2 e3 e4
    exact ⟨⟨n0, n1, n2, n3, b4⟩, rfl⟩
set_option maxRecDepth 100000 in
theorem diag_in {H : Type} {enc : TypeId × Value → H} {w : World} {sp : Nat → Bool} {base : Nat} {v : Value} {d : DataW H} {p : List MemPlace} (hv : Value.okWide Try.prog w .any base 24 v) (h : DataW.Trod enc Try.prog w 0 sp true 24 v d p) :
    ∃ a c X L, v = .agg #[.slice a X.length c, .int .i64 L] ∧ CrsAt w a X ∧ X.length ≤ 9223372036854775807 ∧ -9223372036854775808 ≤ L ∧ L ≤ 9223372036854775807 := by
  obtain ⟨cs, rfl, hs⟩ := okWide_struct Try.underlying24 hv
  obtain ⟨fuel, hf⟩ := h
  have hcells : (Value.agg cs).cells.toList = cs.toList := rfl
  rw [hcells] at hf
  obtain ⟨y0, y1, n, _, hl, t0, t1⟩ := trod_struct2 Try.underlying24 hf
  rw [Try.cells24] at hs
  obtain ⟨c0, c1, rfl⟩ : ∃ c0 c1, cs = #[c0, c1] := by
    match cs, hs with
    | ⟨[c0, c1]⟩, _ => exact ⟨c0, c1, rfl⟩
  simp [Try.cells22, Try.cells3] at t0 t1
  obtain ⟨L, e1, _, hw⟩ := DataW.trod_int Try.underlying3 t1
  simp only [List.cons.injEq, and_true] at e1
  subst e1
  have hL := bounds_i64 hw
  rcases open_slice Try.underlying22 t0 with ⟨e0, _⟩ | ⟨a, len, cap, m, k, D, Pl, e0, _, hlc, hm, hmm, _, hx⟩
  · simp only [List.cons.injEq, and_true] at e0
    subst e0
    exact ⟨none, 0, [], L, rfl, .inl rfl, by simp, by omega, by omega⟩
  · simp only [List.cons.injEq, and_true] at e0
    subst e0
    have hml : len ≤ m := by rw [hmm]; split <;> omega
    have each : ∀ i, i < len → ∃ y : Kn.Cr, w.cell? (a.add (i * 5)) = some (.int .i64 y.a) ∧ w.cell? (a.add (i * 5 + 1)) = some (.int .i64 y.b) ∧ w.cell? (a.add (i * 5 + 2)) = some (.int .i64 y.c) ∧ w.cell? (a.add (i * 5 + 3)) = some (.int .i64 y.d) ∧ w.cell? (a.add (i * 5 + 4)) = some (.bool y.p) := fun i hi => by
      obtain ⟨cs', h1, h2⟩ := hx i (by omega)
      rw [Try.cells58] at h1
      obtain ⟨_, _, hcell⟩ := World.cells?_some h1
      obtain ⟨y, rfl⟩ := cross_in h2
      refine ⟨y, ?_, ?_, ?_, ?_, ?_⟩
      · have := hcell 0 (by omega); rw [add_add] at this; simpa using this
      · have := hcell 1 (by omega); rw [add_add] at this; simpa using this
      · have := hcell 2 (by omega); rw [add_add] at this; simpa using this
      · have := hcell 3 (by omega); rw [add_add] at this; simpa using this
      · have := hcell 4 (by omega); rw [add_add] at this; simpa using this
    obtain ⟨Y, hY⟩ := choose_lt each
    refine ⟨some a, cap, (List.range len).map Y, L, by simp, ?_, by simp; unfold maxLen at hm; omega, by omega, by omega⟩
    by_cases h0 : len = 0
    · left; subst h0; rfl
    · right
      obtain ⟨b, o, t⟩ := a
      have ht : t = none := by
        have := (hY 0 (by omega)).1
        simpa [Addr.add] using World.cell?_spot this
      subst ht
      refine ⟨b, o, rfl, fun i hi => ?_⟩
      have hi' : i < len := by simpa using hi
      have e : Kn.cr ((List.range len).map Y) i = Y i := by
        unfold Kn.cr
        rw [List.getD_eq_getElem?_getD, List.getElem?_map, List.getElem?_range hi']; rfl
      rw [e]
      obtain ⟨h1, h2, h3, h4, h5⟩ := hY i hi'
      rw [addr_add] at h1 h2 h3 h4 h5
      exact ⟨h1, h2, h3, h4, h5⟩
end Go.Proofs.Ytlicglicfijelaa
