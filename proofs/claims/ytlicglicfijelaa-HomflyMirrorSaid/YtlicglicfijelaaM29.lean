/- Walks: the trefoil. -/
import Derived.Test.YtlicglicfijelaaH0
namespace Go.Proofs.Ytlicglicfijelaa
open Go.RowKit

set_option maxRecDepth 20000 in
theorem trefoil_any (w : World) :
    Calls Try.prog 5 #[] w (fun e w' => ∃ a c, e = .returned (.agg #[.slice a 3 c, .int .i64 0]) ∧ CrsAt w' a Kn.trefoil ∧ New w w') := by
  go_enter Try.func5, Try.ntmps5
  go_wp2
  have hN := ((Fr.refl (fun _ => False) w).alloc (.cells #[.slice (some ⟨w.heap.size + 1, 0, none⟩) 3 3, .int .i64 0] 24)).alloc (.cells #[.int .i64 1, .int .i64 4, .int .i64 2, .int .i64 5, .bool false, .int .i64 3, .int .i64 6, .int .i64 4, .int .i64 1, .bool false, .int .i64 5, .int .i64 2, .int .i64 6, .int .i64 3, .bool false] 58)
  have hb := heap_alloc_new (w.alloc (.cells #[.slice (some ⟨w.heap.size + 1, 0, none⟩) 3 3, .int .i64 0] 24)) (.cells #[.int .i64 1, .int .i64 4, .int .i64 2, .int .i64 5, .bool false, .int .i64 3, .int .i64 6, .int .i64 4, .int .i64 1, .bool false, .int .i64 5, .int .i64 2, .int .i64 6, .int .i64 3, .bool false] 58)
  have hr := ((Fr.refl (fun _ => False) (w.alloc (.cells #[.slice (some ⟨w.heap.size + 1, 0, none⟩) 3 3, .int .i64 0] 24))).alloc (.cells #[.int .i64 1, .int .i64 4, .int .i64 2, .int .i64 5, .bool false, .int .i64 3, .int .i64 6, .int .i64 4, .int .i64 1, .bool false, .int .i64 5, .int .i64 2, .int .i64 6, .int .i64 3, .bool false] 58)).blk (heap_alloc_new _ _) fun x => x
  obtain ⟨m5, m6, _, _⟩ := box2_c hr
  rw [World.size_alloc] at hb
  refine bodyPost_ret (v := .agg #[.slice (some ⟨w.heap.size + 1, 0, none⟩) 3 3, .int .i64 0]) (by simp [results, Try.results5, go_sem, m5, m6]) rfl ⟨_, _, rfl, ?_, hN⟩
  refine .inr ⟨_, _, rfl, fun i hi => ?_⟩
  match i, hi with
  | 0, _ => exact ⟨cell_of_row _ _ 0 _ 58 (0, 0) hb, cell_of_row _ _ 1 _ 58 (0, 0) hb, cell_of_row _ _ 2 _ 58 (0, 0) hb, cell_of_row _ _ 3 _ 58 (0, 0) hb, cell_of_row _ _ 4 _ 58 (0, 0) hb⟩
  | 1, _ => exact ⟨cell_of_row _ _ 5 _ 58 (0, 0) hb, cell_of_row _ _ 6 _ 58 (0, 0) hb, cell_of_row _ _ 7 _ 58 (0, 0) hb, cell_of_row _ _ 8 _ 58 (0, 0) hb, cell_of_row _ _ 9 _ 58 (0, 0) hb⟩
  | 2, _ => exact ⟨cell_of_row _ _ 10 _ 58 (0, 0) hb, cell_of_row _ _ 11 _ 58 (0, 0) hb, cell_of_row _ _ 12 _ 58 (0, 0) hb, cell_of_row _ _ 13 _ 58 (0, 0) hb, cell_of_row _ _ 14 _ 58 (0, 0) hb⟩
end Go.Proofs.Ytlicglicfijelaa
