/- Walks: awake. -/
import Derived.Test.YtgjmjbgicfkojaaGreatW29
namespace Go.Proofs.YtgjmjbgicfkojaaGreat
open Go.RowKit

set_option maxRecDepth 20000 in
set_option maxHeartbeats 4000000 in
theorem awake_any (w : World) : Calls Tryz.prog 5 #[] w (fun e w' => e = .returned (.bool true) ∧ New w w') := by
  have hm : Kn.mayB Kn.trefoil 0 = true := by unfold Kn.mayB; rw [Kn.trefoil_ok]; decide
  have HM := Lib.hid hm
  clear hm
  go_enter Tryz.func5, Tryz.ntmps5
  go_wp2_with (first
    | (go_at_call 12; refine (trefoil_any _).mono ?_; rintro e w1 ⟨a, c, rfl, hx, hN⟩; have HX := Lib.hid hx; have HN := Lib.hid hN; have HX1 : Hid (CrsAt (w1.alloc (.cells #[.slice a 3 c, .int .i64 0] 24)) a Kn.trefoil) := Lib.hid (New.crs ((Fr.refl _ w1).alloc _) hx); have hb := heap_alloc_new w1 (.cells #[.slice a 3 c, .int .i64 0] 24); have HB := Lib.hid hb; clear hx hN hb)
    | (go_at_call 13; refine (cfaces_any a 3 c Kn.trefoil 0 _ HX1.out rfl (by omega) (by omega) (by omega)).mono ?_; rintro e w2 ⟨hN, h5⟩; obtain ⟨_, v2, rfl, hr⟩ := h5.resolve_right (fun h => by have h1 := h.1; rw [HM.out] at h1; cases h1); obtain ⟨a2, c2, rfl⟩ := hr.sl; rw [Kn.trefoil_faces]; have HN2 := Lib.hid hN; obtain ⟨p1, p2, _, _⟩ := box2_c (hN.blk HB.out fun x => x); clear hN hr h5)
    | (go_at_call 7; refine (cplanar_any a 3 c Kn.trefoil 0 _ (New.crs HN2.out HX1.out) rfl (by omega) (by omega) (by omega)).mono ?_; rintro e w3 ⟨hN, h5⟩; obtain ⟨_, rfl⟩ := h5.resolve_right (fun h => by have h1 := h.1; rw [HM.out] at h1; cases h1); rw [Kn.trefoil_planar]; have HN3 := Lib.hid (HN2.out.trans hN); obtain ⟨p3, p4, _, _⟩ := box2_c (HN3.out.blk HB.out fun x => x); clear hN h5)
    | (go_at_call 14; refine (gstrands_any a 3 c Kn.trefoil 0 _ (New.crs HN3.out HX1.out) rfl (by omega) (by omega) (by omega)).mono ?_; rintro e w4 ⟨hN, h5⟩; obtain ⟨_, v4, rfl, hr⟩ := h5.resolve_right (fun h => by have h1 := h.1; rw [HM.out] at h1; cases h1); rw [Kn.trefoil_strands] at hr; obtain ⟨g4, c4, u4, rfl, hc4, hu4⟩ := hr.at (i := 0) (by simp); obtain ⟨a5, c5, rfl⟩ := hu4.sl; have HC4 := Lib.hid hc4; have HN4 := Lib.hid (HN3.out.trans hN); obtain ⟨p5, p6, _, _⟩ := box2_c (HN4.out.blk HB.out fun x => x); clear hN h5 hr hu4 hc4)
    | (go_at_call 15; refine (canon_any a 3 c Kn.trefoil 0 _ (New.crs HN4.out HX1.out) rfl (by omega) (by omega) (by omega) HM.out (by simp [Kn.trefoil])).mono ?_; rintro e w5 ⟨s6, rfl, hr, hN⟩; rw [Kn.trefoil_form] at hr; obtain ⟨a6, c6, rfl, _⟩ := own_shape2 hr; have HC5 := Lib.hid (hN.cell HC4.out fun x => x); have HN5 := Lib.hid (HN4.out.trans hN); have hN6 : New (w1.alloc (.cells #[.slice a 3 c, .int .i64 0] 24)) (w5.alloc (.cells #[.slice a6 3 c6, .int .i64 0] 24)) := HN5.out.alloc _; have HN6 := Lib.hid hN6; obtain ⟨p7, p8, _, _⟩ := box2_c (hN6.blk HB.out fun x => x); obtain ⟨p9, p10, _, _⟩ := box2_c (heap_alloc_new w5 (.cells #[.slice a6 3 c6, .int .i64 0] 24)); have HP9 := Lib.hid p9; clear hr hN hN6)
    | (go_at_call 16; refine (may_any a 3 c Kn.trefoil 0 _ (New.crs HN6.out HX1.out) rfl (by omega) (by omega) (by omega)).mono ?_; rintro e w7 ⟨rfl, hN⟩; rw [HM.out]; have q1 := hN.cell HP9.out fun x => x; have q2 := hN.cell (cell_alloc HC5.out (.cells #[.slice a6 3 c6, .int .i64 0] 24)) fun x => x; have HN7 := Lib.hid (HN6.out.trans hN); clear hN))
  go_ret
  exact ⟨rfl, (HN.out.alloc _).trans HN7.out⟩
end Go.Proofs.YtgjmjbgicfkojaaGreat
