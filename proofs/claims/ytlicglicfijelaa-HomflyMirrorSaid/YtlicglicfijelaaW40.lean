/- Walks: Turned (and its inner function). -/
import Derived.Test.YtlicglicfijelaaW9N
import Derived.Test.YtlicglicfijelaaW12
import Derived.Test.YtlicglicfijelaaMAllc
namespace Go.Proofs.Ytlicglicfijelaa
open Go.RowKit

abbrev Bx6 (w : World) (B1 B2 : Nat) (a b c d : Int) (p : Bool) (k : Nat) : Prop :=
  w.cell? ⟨B1, 0, none⟩ = some (.int .i64 a) ∧ w.cell? ⟨B1, 1, none⟩ = some (.int .i64 b) ∧ w.cell? ⟨B1, 2, none⟩ = some (.int .i64 c) ∧ w.cell? ⟨B1, 3, none⟩ = some (.int .i64 d) ∧ w.cell? ⟨B1, 4, none⟩ = some (.bool p) ∧ w.cell? ⟨B2, 0, none⟩ = some (.int .i64 (k : Nat))
set_option maxHeartbeats 1000000 in
theorem turn1_any (i : Int) (s B1 B2 : Nat) (a b c d : Int) (p : Bool) (k : Nat) (w : World) (h : Bx6 w B1 B2 a b c d p k) (h0 : 0 ≤ i) (hi : i < 4) (hk : k < 4) (hs : (i + (k : Nat)) % 4 = (s : Nat)) :
    Calls Try.prog 34 #[.int .i64 i, .pointer (some ⟨B1, 0, none⟩), .pointer (some ⟨B2, 0, none⟩)] w (fun e w' => e = .returned (.int .i64 (arcI a b c d s)) ∧ New w w' ∧ Bx6 w' B1 B2 a b c d p k) := by
  have H := Lib.hid h
  obtain ⟨h1, h2, h3, h4, h5, h6⟩ := h
  have hs4 : s < 4 := by omega
  have e2 : (i + (k : Nat)).tmod 4 = (s : Nat) := by rw [Int.tmod_eq_emod_of_nonneg (by omega)]; exact hs
  go_enter Try.func34, Try.ntmps34
  go_wp2_with (go_at_call 35; refine (arc_any a b c d p s _ hs4).mono ?_; rintro e w4 ⟨rfl, hF⟩; have HF := Lib.hid hF; clear hF)
  go_ret
  obtain ⟨g1, g2, g3, g4, g5, g6⟩ := H.out
  exact ⟨rfl, HF.out, HF.out.cell g1 fun x => x, HF.out.cell g2 fun x => x, HF.out.cell g3 fun x => x, HF.out.cell g4 fun x => x, HF.out.cell g5 fun x => x, HF.out.cell g6 fun x => x⟩
theorem arcI_turn (a b c d : Int) (p : Bool) (k : Nat) : Kn.turnC ⟨a, b, c, d, p⟩ k = ⟨arcI a b c d (k % 4), arcI a b c d ((1 + k) % 4), arcI a b c d ((2 + k) % 4), arcI a b c d ((3 + k) % 4), p⟩ := rfl

theorem fr5 (W : World) (B : Nat) (a b c d e : Value) : Fr (fun k => k = B) W (((((W.setCell ⟨B, 0, none⟩ a).setCell ⟨B, 1, none⟩ b).setCell ⟨B, 2, none⟩ c).setCell ⟨B, 3, none⟩ d).setCell ⟨B, 4, none⟩ e) :=
  (((((Fr.refl (fun k => k = B) W).setCell (a := ⟨B, 0, none⟩) (.inl rfl) _).setCell (a := ⟨B, 1, none⟩) (.inl rfl) _).setCell (a := ⟨B, 2, none⟩) (.inl rfl) _).setCell (a := ⟨B, 3, none⟩) (.inl rfl) _).setCell (a := ⟨B, 4, none⟩) (.inl rfl) _
theorem Bx6.fr {w w' : World} {B B1 B2 : Nat} {a b c d : Int} {p : Bool} {k : Nat} (h : Bx6 w B1 B2 a b c d p k) (hF : Fr (fun j => j = B) w w') (h1 : ¬ B1 = B) (h2 : ¬ B2 = B) : Bx6 w' B1 B2 a b c d p k :=
  ⟨hF.cell h.1 h1, hF.cell h.2.1 h1, hF.cell h.2.2.1 h1, hF.cell h.2.2.2.1 h1, hF.cell h.2.2.2.2.1 h1, hF.cell h.2.2.2.2.2 h2⟩
theorem box5_c {W : World} {B t : Nat} {a b c d e : Value} (h : W.heap[B]? = some (.cells #[a, b, c, d, e] t (0, 0))) :
    W.cell? ⟨B, 0, none⟩ = some a ∧ W.cell? ⟨B, 1, none⟩ = some b ∧ W.cell? ⟨B, 2, none⟩ = some c ∧ W.cell? ⟨B, 3, none⟩ = some d ∧ W.cell? ⟨B, 4, none⟩ = some e ∧
    W.frozen? ⟨B, 0, none⟩ = false ∧ W.frozen? ⟨B, 1, none⟩ = false ∧ W.frozen? ⟨B, 2, none⟩ = false ∧ W.frozen? ⟨B, 3, none⟩ = false ∧ W.frozen? ⟨B, 4, none⟩ = false := by
  refine ⟨cell_of_row _ _ 0 _ t (0, 0) h, cell_of_row _ _ 1 _ t (0, 0) h, cell_of_row _ _ 2 _ t (0, 0) h, cell_of_row _ _ 3 _ t (0, 0) h, cell_of_row _ _ 4 _ t (0, 0) h, ?_, ?_, ?_, ?_, ?_⟩ <;> simp [World.frozen?, h]
theorem box5_set {W : World} {B t : Nat} {a b c d e : Value} (h : W.heap[B]? = some (.cells #[a, b, c, d, e] t (0, 0))) (a' b' c' d' e' : Value) :
    (((((W.setCell ⟨B, 0, none⟩ a').setCell ⟨B, 1, none⟩ b').setCell ⟨B, 2, none⟩ c').setCell ⟨B, 3, none⟩ d').setCell ⟨B, 4, none⟩ e').heap[B]? = some (.cells #[a', b', c', d', e'] t (0, 0)) := by
  unfold World.setCell; simp [Array.getElem?_modify, h]

set_option maxRecDepth 100000 in
set_option maxHeartbeats 4000000 in
theorem turned_any (a b c d : Int) (p : Bool) (k : Nat) (w : World) (hk : k < 4) :
    Calls Try.prog 18 #[.agg #[.int .i64 a, .int .i64 b, .int .i64 c, .int .i64 d, .bool p], .int .i64 (k : Nat)] w (fun e w' => e = .returned (crV (Kn.turnC ⟨a, b, c, d, p⟩ k)) ∧ New w w') := by
  go_enter Try.func18, Try.ntmps18
  go_wp2
  obtain ⟨w1, HW1⟩ : ∃ w1, Hid (w1 = ((w.alloc (.cells #[.int .i64 a, .int .i64 b, .int .i64 c, .int .i64 d, .bool p] 58)).alloc (.cells #[.int .i64 (k : Nat)] 3)).alloc (.cells #[.int .i64 0, .int .i64 0, .int .i64 0, .int .i64 0, .bool false] 58)) := ⟨_, Lib.hid rfl⟩
  rw [← HW1.out]
  have hN1 : New w w1 := by rw [HW1.out]; exact (((Fr.refl _ w).alloc _).alloc _).alloc _
  have hb1 : w1.heap[w.heap.size]? = some (.cells #[.int .i64 a, .int .i64 b, .int .i64 c, .int .i64 d, .bool p] 58 (0, 0)) := by
    rw [HW1.out]
    exact (((Fr.refl (fun _ => False) (w.alloc (.cells #[.int .i64 a, .int .i64 b, .int .i64 c, .int .i64 d, .bool p] 58))).alloc _).alloc _).blk (heap_alloc_new w _) fun x => x
  have hb2 : w1.heap[w.heap.size + 1]? = some (.cells #[.int .i64 (k : Nat)] 3 (0, 0)) := by
    have h2 := heap_alloc_new (w.alloc (.cells #[.int .i64 a, .int .i64 b, .int .i64 c, .int .i64 d, .bool p] 58)) (.cells #[.int .i64 (k : Nat)] 3)
    rw [World.size_alloc] at h2
    rw [HW1.out]
    exact ((Fr.refl (fun _ => False) _).alloc _).blk h2 fun x => x
  have hb3 : w1.heap[w.heap.size + 1 + 1]? = some (.cells #[.int .i64 0, .int .i64 0, .int .i64 0, .int .i64 0, .bool false] 58 (0, 0)) := by
    have h2 := heap_alloc_new ((w.alloc (.cells #[.int .i64 a, .int .i64 b, .int .i64 c, .int .i64 d, .bool p] 58)).alloc (.cells #[.int .i64 (k : Nat)] 3)) (.cells #[.int .i64 0, .int .i64 0, .int .i64 0, .int .i64 0, .bool false] 58)
    rw [World.size_alloc, World.size_alloc] at h2
    rw [HW1.out]
    exact h2
  have hS : Bx6 w1.drew w.heap.size (w.heap.size + 1) a b c d p k := ⟨cell_of_row _ _ 0 _ 58 (0, 0) hb1, cell_of_row _ _ 1 _ 58 (0, 0) hb1, cell_of_row _ _ 2 _ 58 (0, 0) hb1, cell_of_row _ _ 3 _ 58 (0, 0) hb1, cell_of_row _ _ 4 _ 58 (0, 0) hb1, cell_of_row _ _ 0 _ 3 (0, 0) hb2⟩
  have HR0 : Hid (w1.drew.heap[w.heap.size + 1 + 1]? = some (.cells #[.int .i64 0, .int .i64 0, .int .i64 0, .int .i64 0, .bool false] 58 (0, 0))) := Lib.hid hb3
  have HN0 : Hid (New w w1.drew) := Lib.hid hN1.drew
  clear hb1 hb2 hb3 hN1
  have hS0 : Bx6 w1.drew w.heap.size (w.heap.size + 1) a b c d p k := hS
  refine wp_region_held_drew (S := fun w' => w'.cell? ⟨w.heap.size, 0, none⟩ = some (.int .i64 a) ∧ w'.cell? ⟨w.heap.size, 1, none⟩ = some (.int .i64 b) ∧ w'.cell? ⟨w.heap.size, 2, none⟩ = some (.int .i64 c) ∧ w'.cell? ⟨w.heap.size, 3, none⟩ = some (.int .i64 d) ∧ w'.cell? ⟨w.heap.size, 4, none⟩ = some (.bool p) ∧ w'.cell? ⟨w.heap.size + 1, 0, none⟩ = some (.int .i64 (k : Nat))) (by kernel_rfl) hS0 (fun hHeld => ?_)
  have HS0 := Lib.hid hS0
  clear hS0 hS
  generalize w1.drew = r0 at hHeld HR0 HN0 HS0 ⊢
  -- BEGIN2
  refine' wpAnyH_take (i := 0) (v := _) rfl (by kernel_rfl) (by kernel_rfl) (by kernel_rfl) (fun _ _ _ h => h) (Or.inl ⟨by rfl, ?hy⟩) (by assumption) ?rest
  case hy => (intro w' hSw; (try dsimp only at hSw); go_simp <;> with_reducible rfl)
  case rest =>
  simp only [Act.put, List.getElem_toArray, List.getElem_cons_zero, List.setIfInBounds_toArray, List.set_cons_zero, List.set_cons_succ]
  refine' wpAnyH_take (i := 2) (v := _) rfl (by kernel_rfl) (by kernel_rfl) (by kernel_rfl) (fun _ _ _ h => h) (Or.inl ⟨by rfl, ?hy⟩) (by assumption) ?rest
  case hy => (intro w' hSw; (try dsimp only at hSw); go_simp <;> with_reducible rfl)
  case rest =>
  simp only [Act.put, List.getElem_toArray, List.getElem_cons_zero, List.getElem_cons_succ, List.setIfInBounds_toArray, List.set_cons_zero, List.set_cons_succ]
  refine' wpAnyH_take (i := 4) (v := _) rfl (by kernel_rfl) (by kernel_rfl) (by kernel_rfl) (fun _ _ _ h => h) (Or.inl ⟨by rfl, ?hy⟩) (by assumption) ?rest
  case hy => (intro w' hSw; (try dsimp only at hSw); go_simp <;> with_reducible rfl)
  case rest =>
  simp only [Act.put, List.getElem_toArray, List.getElem_cons_zero, List.getElem_cons_succ, List.setIfInBounds_toArray, List.set_cons_zero, List.set_cons_succ]
  refine' wpAnyH_take (i := 6) (v := _) rfl (by kernel_rfl) (by kernel_rfl) (by kernel_rfl) (fun _ _ _ h => h) (Or.inl ⟨by rfl, ?hy⟩) (by assumption) ?rest
  case hy => (intro w' hSw; (try dsimp only at hSw); go_simp <;> with_reducible rfl)
  case rest =>
  simp only [Act.put, List.getElem_toArray, List.getElem_cons_zero, List.getElem_cons_succ, List.setIfInBounds_toArray, List.set_cons_zero, List.set_cons_succ]
  refine' wpAnyH_take (i := 8) (v := _) rfl (by kernel_rfl) (by kernel_rfl) (by kernel_rfl) (fun _ _ _ h => h) (Or.inl ⟨by rfl, ?hy⟩) (by assumption) ?rest
  case hy => (intro w' hSw; (try dsimp only at hSw); go_simp <;> with_reducible rfl)
  case rest =>
  simp only [Act.put, List.getElem_toArray, List.getElem_cons_zero, List.getElem_cons_succ, List.setIfInBounds_toArray, List.set_cons_zero, List.set_cons_succ]
  refine' wpAnyH_take (i := 9) (v := _) rfl (by kernel_rfl) (by kernel_rfl) (by kernel_rfl) (fun _ _ _ h => h) (Or.inl ⟨by rfl, ?hy⟩) (by assumption) ?rest
  case hy => (intro w' hSw; (try dsimp only at hSw); go_simp <;> with_reducible rfl)
  case rest =>
  simp only [Act.put, List.getElem_toArray, List.getElem_cons_zero, List.getElem_cons_succ, List.setIfInBounds_toArray, List.set_cons_zero, List.set_cons_succ]
  refine wpAnyH_ready (rs := [1]) (by kernel_rfl) (by simp) ?_
  refine AllReadyH.cons rfl (fun K hK => ?_) AllReadyH.nil
  (try simp only [List.getElem_toArray, List.getElem_cons_zero, List.getElem_cons_succ])
  go_simp
  refine (turn1_any 0 (k % 4) _ _ a b c d p k _ HS0.out (by omega) (by omega) hk (by omega)).mono ?_
  rintro e r1 ⟨rfl, hF, hq⟩
  have HS1 := Lib.hid hq
  have HR1 := Lib.hid (hF.blk HR0.out fun x => x)
  have HN1 := Lib.hid (HN0.out.trans hF)
  clear hF hq
  go_wp2_with fail
  refine hK.out _ _ HS1.out (fun hHeld => ?_)
  clear hK K
  (try simp only [Act.put, List.getElem_toArray, List.getElem_cons_zero, List.getElem_cons_succ, List.setIfInBounds_toArray, List.set_cons_zero, List.set_cons_succ])
  refine wpAnyH_ready (rs := [3]) (by kernel_rfl) (by simp) ?_
  refine AllReadyH.cons rfl (fun K hK => ?_) AllReadyH.nil
  (try simp only [List.getElem_toArray, List.getElem_cons_zero, List.getElem_cons_succ])
  go_simp
  refine (turn1_any 1 ((1 + k) % 4) _ _ a b c d p k _ HS1.out (by omega) (by omega) hk (by omega)).mono ?_
  rintro e r2 ⟨rfl, hF, hq⟩
  have HS2 := Lib.hid hq
  have HR2 := Lib.hid (hF.blk HR1.out fun x => x)
  have HN2 := Lib.hid (HN1.out.trans hF)
  clear hF hq
  go_wp2_with fail
  refine hK.out _ _ HS2.out (fun hHeld => ?_)
  clear hK K
  (try simp only [Act.put, List.getElem_toArray, List.getElem_cons_zero, List.getElem_cons_succ, List.setIfInBounds_toArray, List.set_cons_zero, List.set_cons_succ])
  refine wpAnyH_ready (rs := [5]) (by kernel_rfl) (by simp) ?_
  refine AllReadyH.cons rfl (fun K hK => ?_) AllReadyH.nil
  (try simp only [List.getElem_toArray, List.getElem_cons_zero, List.getElem_cons_succ])
  go_simp
  refine (turn1_any 2 ((2 + k) % 4) _ _ a b c d p k _ HS2.out (by omega) (by omega) hk (by omega)).mono ?_
  rintro e r3 ⟨rfl, hF, hq⟩
  have HS3 := Lib.hid hq
  have HR3 := Lib.hid (hF.blk HR2.out fun x => x)
  have HN3 := Lib.hid (HN2.out.trans hF)
  clear hF hq
  go_wp2_with fail
  refine hK.out _ _ HS3.out (fun hHeld => ?_)
  clear hK K
  (try simp only [Act.put, List.getElem_toArray, List.getElem_cons_zero, List.getElem_cons_succ, List.setIfInBounds_toArray, List.set_cons_zero, List.set_cons_succ])
  refine wpAnyH_ready (rs := [7]) (by kernel_rfl) (by simp) ?_
  refine AllReadyH.cons rfl (fun K hK => ?_) AllReadyH.nil
  (try simp only [List.getElem_toArray, List.getElem_cons_zero, List.getElem_cons_succ])
  go_simp
  refine (turn1_any 3 ((3 + k) % 4) _ _ a b c d p k _ HS3.out (by omega) (by omega) hk (by omega)).mono ?_
  rintro e r4 ⟨rfl, hF, hq⟩
  have HS4 := Lib.hid hq
  have HR4 := Lib.hid (hF.blk HR3.out fun x => x)
  have HN4 := Lib.hid (HN3.out.trans hF)
  clear hF hq
  go_wp2_with fail
  refine hK.out _ _ HS4.out (fun hHeld => ?_)
  clear hK K
  (try simp only [Act.put, List.getElem_toArray, List.getElem_cons_zero, List.getElem_cons_succ, List.setIfInBounds_toArray, List.set_cons_zero, List.set_cons_succ])
  refine' wpAnyH_take (i := 10) (v := _) rfl (by kernel_rfl) (by kernel_rfl) (by kernel_rfl) (fun _ _ _ h => h) (Or.inl ⟨by rfl, ?hy⟩) (by assumption) ?rest
  case hy => (intro w' hSw; (try dsimp only at hSw); go_simp <;> with_reducible rfl)
  case rest =>
  simp only [Act.put, List.getElem_toArray, List.getElem_cons_zero, List.getElem_cons_succ, List.setIfInBounds_toArray, List.set_cons_zero, List.set_cons_succ]
  refine wpAnyH_ready (rs := [11]) (by kernel_rfl) (by simp) ?_
  refine AllReadyH.cons rfl (fun K hK => ?_) AllReadyH.nil
  (try simp only [List.getElem_toArray, List.getElem_cons_zero, List.getElem_cons_succ])
  obtain ⟨q1, q2, q3, q4, q5, q6, q7, q8, q9, q10⟩ := box5_c HR4.out
  go_simp
  have HE := Lib.hid (box5_set HR4.out (.int .i64 (arcI a b c d (k % 4))) (.int .i64 (arcI a b c d ((1 + k) % 4))) (.int .i64 (arcI a b c d ((2 + k) % 4))) (.int .i64 (arcI a b c d ((3 + k) % 4))) (.bool p))
  have HF := Lib.hid (fr5 r4 (w.heap.size + 1 + 1) (.int .i64 (arcI a b c d (k % 4))) (.int .i64 (arcI a b c d ((1 + k) % 4))) (.int .i64 (arcI a b c d ((2 + k) % 4))) (.int .i64 (arcI a b c d ((3 + k) % 4))) (.bool p))
  clear q1 q2 q3 q4 q5 q6 q7 q8 q9 q10
  refine hK.out _ _ (Bx6.fr HS4.out HF.out (by omega) (by omega)) (fun hHeld => ?_)
  clear hK K
  (try simp only [Act.put, List.getElem_toArray, List.getElem_cons_zero, List.getElem_cons_succ, List.setIfInBounds_toArray, List.set_cons_zero, List.set_cons_succ])
  refine wpAnyH_done (by kernel_rfl) ?_ _
  obtain ⟨q1, q2, q3, q4, q5, _⟩ := box5_c HE.out
  have HN5 : Hid (New w _) := Lib.hid (HN4.out.next HF.out fun i hi => .inr (by omega))
  -- END2
  go_wp2
  exact bodyPost_ret (v := crV (Kn.turnC ⟨a, b, c, d, p⟩ k)) (by simp [results, Try.results18, go_sem, q1, q2, q3, q4, q5, arcI_turn]) rfl ⟨rfl, HN5.out⟩
end Go.Proofs.Ytlicglicfijelaa
