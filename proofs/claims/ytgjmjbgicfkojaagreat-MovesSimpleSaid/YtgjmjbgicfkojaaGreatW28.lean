/- Walks: Canon, at a diagram that may be and is not empty. -/
import Derived.Test.YtgjmjbgicfkojaaGreatW25
import Derived.Test.YtgjmjbgicfkojaaGreatW16
namespace Go.Proofs.YtgjmjbgicfkojaaGreat
open Go.RowKit

set_option maxHeartbeats 2000000 in
theorem canon_any (a : Option Addr) (n c : Nat) (X : List Kn.Cr) (L : Int) (w : World) (hx : CrsAt w a X) (hn : n = X.length) (lx : n ≤ 9223372036854775807) (l1 : -9223372036854775808 ≤ L) (l2 : L ≤ 9223372036854775807) (hok : Kn.mayB X L = true) (hne : X ≠ []) :
    Calls Tryz.prog 15 #[.agg #[.slice a n c, .int .i64 L]] w (fun e w' => ∃ sc, e = .returned (.tuple #[.agg #[sc, .int .i64 L], .int .i64 0]) ∧ w'.ownsRow w.heap.size 75 5 sc (Kn.formL X).length (crCells (Kn.formL X)) ∧ New w w') := by
  have HN := Lib.hid hn
  have HX := Lib.hid hx
  have HOK := Lib.hid (mayB_ok hok)
  have HO := Lib.hid hok
  clear hx hn
  go_enter Tryz.func15, Tryz.ntmps15
  go_wp2_with (first
    | (go_at_call 20; refine (new_any a n c X L _ (New.crs (((Fr.refl _ _).alloc _).alloc _) HX.out) HN.out lx l1 l2).mono ?_; rintro e w4 ⟨hF, h5⟩; obtain ⟨_, b, rfl, hs, _⟩ := h5.resolve_right (fun h => by have h1 := h.1; rw [HO.out] at h1; cases h1); have HF := Lib.hid hF; have HS := Lib.hid hs; clear hF hs h5)
    | (go_at_call 26; refine (form_any b X L _ HS.out HOK.out.1 HOK.out.2 hne).mono ?_; rintro e w5 ⟨sc, rfl, hr, hE⟩; obtain ⟨a1, c1, rfl, _⟩ := own_shape2 hr; have HR := Lib.hid hr; have HE := Lib.hid hE; have hb0 := (HF.out.trans hE).blk (show ((w.alloc (.cells #[.slice a n c, .int .i64 L] 24)).alloc (.cells #[.slice none 0 0, .int .i64 0] 24)).heap[w.heap.size + 1]? = some (.cells #[.slice none 0 0, .int .i64 0] 24 (0, 0)) by have := heap_alloc_new (w.alloc (.cells #[.slice a n c, .int .i64 L] 24)) (.cells #[.slice none 0 0, .int .i64 0] 24); rwa [World.size_alloc] at this) fun x => x; have HB := Lib.hid hb0; obtain ⟨e0, _, z0, _⟩ := box2_c hb0; have hb1 := (box2_set hb0 (.slice a1 (Kn.formL X).length c1)).1; obtain ⟨_, e1, _, z1⟩ := box2_c hb1; obtain ⟨m5, m6, _, _⟩ := box2_c (box2_set hb1 (.int .i64 L)).2; clear hr hE hb0 hb1))
  refine bodyPost_ret (v := .tuple #[.agg #[.slice a1 (Kn.formL X).length c1, .int .i64 L], .int .i64 0]) (by simp [results, Tryz.results15, go_sem, m5, m6]) rfl ⟨_, rfl, ?_, ?_⟩
  all_goals
    have hS : Fr (fun k => k = w.heap.size + 1) w5 ((w5.setCell ⟨w.heap.size + 1, 0, none⟩ (.slice a1 (Kn.formL X).length c1)).setCell ⟨w.heap.size + 1, 1, none⟩ (.int .i64 L)) := by refine Fr.setCell (Fr.setCell (Fr.refl _ w5) ?_ _) ?_ _ <;> exact .inl rfl
    have hN : New w w4 := (((Fr.refl _ w).alloc _).alloc _).trans HF.out
  · exact own_base (hS.owns HR.out fun k hk e => blk_not_own HB.out HR.out (by decide) (e ▸ hk)) hN.size
  · exact (hN.trans HE.out).next hS fun i hi => .inr (by rw [hi]; exact Nat.le_succ _)
end Go.Proofs.YtgjmjbgicfkojaaGreat
