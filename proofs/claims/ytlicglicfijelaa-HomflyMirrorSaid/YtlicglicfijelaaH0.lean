/- Words for walks: rows of crossings, boxes. -/
import Derived.BigRegion
import Derived.Deep.AppendLies
import Derived.Test.YtlicglicfijelaaW14
namespace Go.Proofs.Ytlicglicfijelaa
open Go.RowKit

theorem crCells_snoc (X : List Kn.Cr) (x : Kn.Cr) : crCells (X ++ [x]) = crCells X ++ [.int .i64 x.a, .int .i64 x.b, .int .i64 x.c, .int .i64 x.d, .bool x.p] := by
  apply List.ext_getElem?
  intro j
  by_cases c : j < X.length * 5
  · rw [crCells_at (by simp; omega), List.getElem?_append_left (by rw [crCells_length]; exact c), crCells_at c]
    have : Kn.cr (X ++ [x]) (j / 5) = Kn.cr X (j / 5) := by
      unfold Kn.cr
      rw [List.getD_eq_getElem?_getD, List.getD_eq_getElem?_getD, List.getElem?_append_left (by omega)]
    unfold crFn
    rw [this]
  · by_cases c' : j < X.length * 5 + 5
    · rw [crCells_at (by simp; omega), List.getElem?_append_right (by rw [crCells_length]; omega), crCells_length]
      have e1 : j / 5 = X.length := by omega
      have : Kn.cr (X ++ [x]) (j / 5) = x := by
        unfold Kn.cr
        rw [List.getD_eq_getElem?_getD, e1]
        simp
      unfold crFn
      rw [this]
      obtain ⟨k, hk, rfl⟩ : ∃ k, k < 5 ∧ j = X.length * 5 + k := ⟨j - X.length * 5, by omega, by omega⟩
      rw [show (X.length * 5 + k) % 5 = k by omega, show X.length * 5 + k - X.length * 5 = k by omega]
      match k, hk with
      | 0, _ => rfl
      | 1, _ => rfl
      | 2, _ => rfl
      | 3, _ => rfl
      | 4, _ => rfl
    · rw [List.getElem?_eq_none (by rw [crCells_length]; simp; omega), List.getElem?_eq_none (by simp [crCells_length]; omega)]
theorem ShAt.loops {w : World} {b : Nat} {X : List Kn.Cr} {L : Int} (h : ShAt w b X L) : w.cell? ⟨b, 1, none⟩ = some (.int .i64 L) := by
  obtain ⟨v, bi, bo, base, s⟩ := h
  exact s.c2.2.1
theorem ShAt.crs {w : World} {b : Nat} {X : List Kn.Cr} {L : Int} (h : ShAt w b X L) : ∃ a c, w.cell? ⟨b, 0, none⟩ = some (.slice a X.length c) ∧ w.cell? ⟨b, 1, none⟩ = some (.int .i64 L) ∧ CrsAt w a X := by
  obtain ⟨v, bi, bo, base, s⟩ := h; obtain ⟨a, c, rfl, hc⟩ := CrsAt.of_owns s.own
  exact ⟨a, c, s.c2.1, s.c2.2.1, hc⟩
theorem arc_nat {X : List Kn.Cr} (hX : Kn.Ok X) {c : Nat} (hc : c < X.length) : (Kn.cr X c).a = (Kn.arcN X (c, 0) : Nat) ∧ (Kn.cr X c).b = (Kn.arcN X (c, 1) : Nat) ∧ (Kn.cr X c).c = (Kn.arcN X (c, 2) : Nat) ∧ (Kn.cr X c).d = (Kn.arcN X (c, 3) : Nat) ∧ ∀ s, s < 4 → Kn.arcN X (c, s) ≤ 2 * X.length := by
  have h : ∀ s, s < 4 → Kn.at_ X (c, s) = (Kn.arcN X (c, s) : Nat) ∧ Kn.arcN X (c, s) ≤ 2 * X.length := fun s hs => by
    have h1 := hX.isArc (X := X) (p := (c, s)) ⟨hc, hs⟩
    unfold Kn.isArc Kn.nArcs at h1
    refine ⟨?_, h1.2⟩
    have h2 := h1.1
    unfold Kn.arcN at h2 ⊢
    omega
  exact ⟨(h 0 (by omega)).1, (h 1 (by omega)).1, (h 2 (by omega)).1, (h 3 (by omega)).1, fun s hs => (h s hs).2⟩
theorem five_cells {w : World} {a b c d e : Value} {t : TypeId} {B : Nat} (hB : B = w.heap.size) : ∀ (j : Nat) (u : Value), [a, b, c, d, e][j]? = some u → (w.alloc (.cells #[a, b, c, d, e] t)).cell? ((⟨B, 0, none⟩ : Addr).add j) = some u := by
  subst hB
  have h := heap_alloc_new w (.cells #[a, b, c, d, e] t)
  intro j u hj
  rw [addr_add, Nat.zero_add]
  match j, hj with
  | 0, hj => cases hj; exact cell_of_row _ _ 0 _ t (0, 0) h
  | 1, hj => cases hj; exact cell_of_row _ _ 1 _ t (0, 0) h
  | 2, hj => cases hj; exact cell_of_row _ _ 2 _ t (0, 0) h
  | 3, hj => cases hj; exact cell_of_row _ _ 3 _ t (0, 0) h
  | 4, hj => cases hj; exact cell_of_row _ _ 4 _ t (0, 0) h
theorem one_five (a b c d : Int) (p : Bool) : ∀ u ∈ [Value.int .i64 a, .int .i64 b, .int .i64 c, .int .i64 d, .bool p], u.oneCell' = true := by
  intro u hu
  simp only [List.mem_cons, List.not_mem_nil, or_false] at hu
  rcases hu with rfl | rfl | rfl | rfl | rfl <;> rfl
theorem box2_set {W : World} {B t : Nat} {a b : Value} (hb : W.heap[B]? = some (.cells #[a, b] t (0, 0))) (v : Value) : (W.setCell ⟨B, 0, none⟩ v).heap[B]? = some (.cells #[v, b] t (0, 0)) ∧ (W.setCell ⟨B, 1, none⟩ v).heap[B]? = some (.cells #[a, v] t (0, 0)) := by
  constructor <;> (unfold World.setCell; simp [Array.getElem?_modify, hb])
theorem box2_c {W : World} {B t : Nat} {a b : Value} (h : W.heap[B]? = some (.cells #[a, b] t (0, 0))) : W.cell? ⟨B, 0, none⟩ = some a ∧ W.cell? ⟨B, 1, none⟩ = some b ∧ W.frozen? ⟨B, 0, none⟩ = false ∧ W.frozen? ⟨B, 1, none⟩ = false :=
  ⟨cell_of_row _ _ 0 _ t (0, 0) h, cell_of_row _ _ 1 _ t (0, 0) h, by simp [World.frozen?, h], by simp [World.frozen?, h]⟩
end Go.Proofs.Ytlicglicfijelaa
