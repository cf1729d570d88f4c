/- Walks: Form$1. -/
import Derived.Test.YtgjmjbgicfkojaaGreatW19
namespace Go.Proofs.YtgjmjbgicfkojaaGreat
open Go.RowKit

set_option maxHeartbeats 4000000 in
theorem form1_any (va vb : Value) (b1 b2 : Nat) (x y : Kn.Vw) (w : World) (h1 : OwnV b1 w va x) (h2 : OwnV b2 w vb y) (l1 : x.1.length ≤ 1000) (l2 : x.2.length ≤ 1000) (l3 : y.1.length ≤ 1000) (l4 : y.2.length ≤ 1000) :
    Calls Tryz.prog 43 #[va, vb] w (fun e w' => e = .returned (.int .i64 (Kn.cmpV x y)) ∧ ∃ q os', w' = Go.Sort.grow (w.drewN q) os') := by
  obtain ⟨sa, sb, rfl, ha, hb⟩ := h1
  obtain ⟨sc, sd, rfl, hc, hd⟩ := h2
  obtain ⟨a1, c1, rfl, _⟩ := own_shape2 ha
  obtain ⟨a2, c2, rfl, _⟩ := own_shape2 hb
  obtain ⟨a3, c3, rfl, _⟩ := own_shape2 hc
  obtain ⟨a4, c4, rfl, _⟩ := own_shape2 hd
  obtain ⟨n1, HN1⟩ : ∃ n, Hid (n = x.1.length) := ⟨_, Lib.hid rfl⟩
  obtain ⟨n2, HN2⟩ : ∃ n, Hid (n = x.2.length) := ⟨_, Lib.hid rfl⟩
  obtain ⟨n3, HN3⟩ : ∃ n, Hid (n = y.1.length) := ⟨_, Lib.hid rfl⟩
  obtain ⟨n4, HN4⟩ : ∃ n, Hid (n = y.2.length) := ⟨_, Lib.hid rfl⟩
  rw [← HN2.out] at hb l2 ⊢
  rw [← HN4.out] at hd l4 ⊢
  rw [← HN1.out] at l1 ⊢
  rw [← HN3.out] at l3 ⊢
  have HB := Lib.hid hb
  have HD := Lib.hid hd
  clear ha hb hc hd
  go_enter Tryz.func43, Tryz.ntmps43
  go_wp2_with fail
  obtain ⟨w1, HW1⟩ : ∃ w1, Hid (w1 = (w.alloc (.cells #[.slice a1 n1 c1, .slice a2 n2 c2] 94)).alloc (.cells #[.slice a3 n3 c3, .slice a4 n4 c4] 94)) := ⟨_, Lib.hid rfl⟩
  rw [← HW1.out]
  have hF : New w w1 := by rw [HW1.out]; exact ((Fr.refl _ _).alloc _).alloc _
  have q1 : w1.heap[w.heap.size]? = some (.cells #[.slice a1 n1 c1, .slice a2 n2 c2] 94 (0, 0)) := by rw [HW1.out]; exact (Below.heap_alloc _ _ _ (by simp)).trans (heap_alloc_new _ _)
  have q2 : w1.heap[w.heap.size + 1]? = some (.cells #[.slice a3 n3 c3, .slice a4 n4 c4] 94 (0, 0)) := by
    have := heap_alloc_new (w.alloc (.cells #[.slice a1 n1 c1, .slice a2 n2 c2] 94)) (.cells #[.slice a3 n3 c3, .slice a4 n4 c4] 94)
    rw [World.size_alloc, ← HW1.out] at this; exact this
  obtain ⟨k1, k2, _, _⟩ := box2_c q1
  obtain ⟨k3, k4, _, _⟩ := box2_c q2
  have HB1 := Lib.hid (hF.owns HB.out fun _ _ x => x)
  have HD1 := Lib.hid (hF.owns HD.out fun _ _ x => x)
  have HF := Lib.hid hF
  clear hF q1 q2
  obtain ⟨cv, HCV⟩ : ∃ cv, Hid (cv = Kn.cmpL x.2 y.2) := ⟨_, Lib.hid rfl⟩
  obtain ⟨ov, HOV⟩ : ∃ ov, Hid (ov = if IntKind.i64.wrap ((n1 : Int) - (n3 : Int)) = 0 then cv else IntKind.i64.wrap ((n1 : Int) - (n3 : Int))) := ⟨_, Lib.hid rfl⟩
  have hov : Kn.cmpV x y = ov := by
    rw [HOV.out, HCV.out, IntWalk.i64_in _ (by omega), HN1.out, HN3.out]; rfl
  have HV := Lib.hid hov
  clear hov
  go_region_held3 (fun w' => w'.cell? ⟨w.heap.size, 0, none⟩ = some (.slice a1 n1 c1) ∧ w'.cell? ⟨w.heap.size, 1, none⟩ = some (.slice a2 n2 c2) ∧ w'.cell? ⟨w.heap.size + 1, 0, none⟩ = some (.slice a3 n3 c3) ∧ w'.cell? ⟨w.heap.size + 1, 1, none⟩ = some (.slice a4 n4 c4))
    (first | assumption | go_keep)
    (first
      | (go_at_call 41; refine (compare_any _ _ _ _ n2 n4 x.2 y.2 _ (by first | exact HB1.out | exact (Fr.refl (fun _ => False) w1).drew.owns HB1.out fun _ _ x => x) (by first | exact HD1.out | exact (Fr.refl (fun _ => False) w1).drew.owns HD1.out fun _ _ x => x) HN2.out HN4.out l2 l4).mono ?_; rintro e w4 ⟨rfl, rfl⟩; rw [← HCV.out])
      | (go_at_call 44; refine (or_any w1.heap.size 2 (IntKind.i64.wrap ((n1 : Int) - (n3 : Int))) cv _ (by exact cell_two (w := w1) rfl 0 _ rfl) (by exact cell_two (w := w1) rfl 1 _ rfl)).mono ?_; rintro e w5 ⟨rfl, rfl⟩; rw [← HOV.out]))
  all_goals
    go_wp2
    go_ret
    refine ⟨by rw [HV.out]; rfl, ?_⟩
    first
      | exact ⟨1, _, by rw [HW1.out, Go.Sort.alloc_eq_grow, Go.Sort.alloc_eq_grow, Go.Sort.alloc_eq_grow, Go.Sort.grow_grow, Go.Sort.grow_grow]; rfl⟩
      | exact ⟨0, _, by rw [HW1.out, Go.Sort.alloc_eq_grow, Go.Sort.alloc_eq_grow, Go.Sort.alloc_eq_grow, Go.Sort.grow_grow, Go.Sort.grow_grow]; rfl⟩
end Go.Proofs.YtgjmjbgicfkojaaGreat
