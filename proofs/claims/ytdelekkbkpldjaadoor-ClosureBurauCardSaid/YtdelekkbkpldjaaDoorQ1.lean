/- Walks: Make. -/
import Derived.BigRegion
import Derived.Test.YtdelekkbkpldjaaDoorJ3
namespace Go.Proofs.YtdelekkbkpldjaaDoor
open Go.RowKit

theorem box2_c {W : World} {B t : Nat} {a b : Value} (h : W.heap[B]? = some (.cells #[a, b] t (0, 0))) : W.cell? ⟨B, 0, none⟩ = some a ∧ W.cell? ⟨B, 1, none⟩ = some b ∧ W.frozen? ⟨B, 0, none⟩ = false ∧ W.frozen? ⟨B, 1, none⟩ = false :=
  ⟨cell_of_row _ _ 0 _ t (0, 0) h, cell_of_row _ _ 1 _ t (0, 0) h, by simp [World.frozen?, h], by simp [World.frozen?, h]⟩
theorem mk5_c {W : World} {B t : Nat} {a b c d e : Value} (h : W.heap[B]? = some (.cells #[a, b, c, d, e] t (0, 0))) :
    W.cell? ⟨B, 0, none⟩ = some a ∧ W.cell? ⟨B, 1, none⟩ = some b ∧ W.cell? ⟨B, 2, none⟩ = some c ∧ W.cell? ⟨B, 3, none⟩ = some d ∧ W.cell? ⟨B, 4, none⟩ = some e ∧
    W.frozen? ⟨B, 0, none⟩ = false ∧ W.frozen? ⟨B, 1, none⟩ = false ∧ W.frozen? ⟨B, 2, none⟩ = false ∧ W.frozen? ⟨B, 3, none⟩ = false ∧ W.frozen? ⟨B, 4, none⟩ = false := by
  refine ⟨cell_of_row _ _ 0 _ t (0, 0) h, cell_of_row _ _ 1 _ t (0, 0) h, cell_of_row _ _ 2 _ t (0, 0) h, cell_of_row _ _ 3 _ t (0, 0) h, cell_of_row _ _ 4 _ t (0, 0) h, ?_, ?_, ?_, ?_, ?_⟩ <;> simp [World.frozen?, h]
theorem mk5_set1 {W : World} {B t : Nat} {a b c d e : Value} (h : W.heap[B]? = some (.cells #[a, b, c, d, e] t (0, 0))) (v : Value) : (W.setCell ⟨B, 1, none⟩ v).heap[B]? = some (.cells #[a, v, c, d, e] t (0, 0)) := by
  unfold World.setCell; simp [Array.getElem?_modify, h]
theorem mk5_set3 {W : World} {B t : Nat} {a b c d e : Value} (h : W.heap[B]? = some (.cells #[a, b, c, d, e] t (0, 0))) (v : Value) : (W.setCell ⟨B, 3, none⟩ v).heap[B]? = some (.cells #[a, b, c, v, e] t (0, 0)) := by
  unfold World.setCell; simp [Array.getElem?_modify, h]
theorem mk5_set {W : World} {B t : Nat} {a b c d e : Value} (h : W.heap[B]? = some (.cells #[a, b, c, d, e] t (0, 0))) (a' b' c' d' e' : Value) :
    (((((W.setCell ⟨B, 0, none⟩ a').setCell ⟨B, 1, none⟩ b').setCell ⟨B, 2, none⟩ c').setCell ⟨B, 3, none⟩ d').setCell ⟨B, 4, none⟩ e').heap[B]? = some (.cells #[a', b', c', d', e'] t (0, 0)) := by
  unfold World.setCell; simp [Array.getElem?_modify, h]
theorem mk5_fr (W : World) (B : Nat) (a b c d e : Value) : Fr (fun k => k = B) W (((((W.setCell ⟨B, 0, none⟩ a).setCell ⟨B, 1, none⟩ b).setCell ⟨B, 2, none⟩ c).setCell ⟨B, 3, none⟩ d).setCell ⟨B, 4, none⟩ e) :=
  (((((Fr.refl (fun k => k = B) W).setCell (a := ⟨B, 0, none⟩) (.inl rfl) _).setCell (a := ⟨B, 1, none⟩) (.inl rfl) _).setCell (a := ⟨B, 2, none⟩) (.inl rfl) _).setCell (a := ⟨B, 3, none⟩) (.inl rfl) _).setCell (a := ⟨B, 4, none⟩) (.inl rfl) _

def Kn.mkCr (b0 b1 a0 a1 : Int) (p : Bool) : Kn.Cr := if p then ⟨b0, a1, b1, a0, true⟩ else ⟨b0, a0, b1, a1, false⟩
def GaveCr (x : Kn.Cr) (w : World) (e : Ending) (w' : World) : Prop := e = .returned (crV x) ∧ New w w'
set_option maxRecDepth 100000 in
set_option maxHeartbeats 2000000 in
theorem make_any (b0 b1 a0 a1 : Int) (p : Bool) (w : World) :
    Calls Tryd.prog 19 #[.agg #[.int .i64 b0, .int .i64 b1], .agg #[.int .i64 a0, .int .i64 a1], .bool p] w (GaveCr (Kn.mkCr b0 b1 a0 a1 p) w) := by
  cases p
  · go_enter Tryd.func19, Tryd.ntmps19
    go_wp2
    have HN := Lib.hid ((((Fr.refl (fun _ => False) w).alloc (.cells #[.int .i64 b0, .int .i64 b1] 53)).alloc (.cells #[.int .i64 a0, .int .i64 a1] 53)).alloc (.cells #[.int .i64 b0, .int .i64 a0, .int .i64 b1, .int .i64 a1, .bool false] 56) |>.alloc (.cells #[.int .i64 b0, .int .i64 a0, .int .i64 b1, .int .i64 a1, .bool false] 56))
    have hz := heap_alloc_new ((w.alloc (.cells #[.int .i64 b0, .int .i64 b1] 53)).alloc (.cells #[.int .i64 a0, .int .i64 a1] 53)) (.cells #[.int .i64 b0, .int .i64 a0, .int .i64 b1, .int .i64 a1, .bool false] 56)
    rw [World.size_alloc, World.size_alloc] at hz
    have hz2 := ((Fr.refl (fun _ => False) _).alloc (.cells #[.int .i64 b0, .int .i64 a0, .int .i64 b1, .int .i64 a1, .bool false] 56)).blk hz fun x => x
    obtain ⟨c1, c2, c3, c4, c5, _⟩ := mk5_c hz2
    exact bodyPost_ret (v := .agg #[.int .i64 b0, .int .i64 a0, .int .i64 b1, .int .i64 a1, .bool false]) (by simp [results, Tryd.results19, go_sem, c1, c2, c3, c4, c5]) rfl ⟨rfl, HN.out⟩
  · go_enter Tryd.func19, Tryd.ntmps19
    go_wp2
    have HN := Lib.hid ((((Fr.refl (fun _ => False) w).alloc (.cells #[.int .i64 b0, .int .i64 b1] 53)).alloc (.cells #[.int .i64 a0, .int .i64 a1] 53)).alloc (.cells #[.int .i64 0, .int .i64 0, .int .i64 0, .int .i64 0, .bool false] 56) |>.alloc (.cells #[.int .i64 b0, .int .i64 a0, .int .i64 b1, .int .i64 a1, .bool true] 56))
    have hz := heap_alloc_new ((w.alloc (.cells #[.int .i64 b0, .int .i64 b1] 53)).alloc (.cells #[.int .i64 a0, .int .i64 a1] 53)) (.cells #[.int .i64 0, .int .i64 0, .int .i64 0, .int .i64 0, .bool false] 56)
    rw [World.size_alloc, World.size_alloc] at hz
    have hz2 := ((Fr.refl (fun _ => False) _).alloc (.cells #[.int .i64 b0, .int .i64 a0, .int .i64 b1, .int .i64 a1, .bool true] 56)).blk hz fun x => x
    have hy := heap_alloc_new (w.alloc (.cells #[.int .i64 b0, .int .i64 b1] 53)) (.cells #[.int .i64 a0, .int .i64 a1] 53)
    rw [World.size_alloc] at hy
    have hy2 := (((Fr.refl (fun _ => False) _).alloc (.cells #[.int .i64 0, .int .i64 0, .int .i64 0, .int .i64 0, .bool false] 56)).alloc (.cells #[.int .i64 b0, .int .i64 a0, .int .i64 b1, .int .i64 a1, .bool true] 56)).blk hy fun x => x
    have hd := heap_alloc_new (((w.alloc (.cells #[.int .i64 b0, .int .i64 b1] 53)).alloc (.cells #[.int .i64 a0, .int .i64 a1] 53)).alloc (.cells #[.int .i64 0, .int .i64 0, .int .i64 0, .int .i64 0, .bool false] 56)) (.cells #[.int .i64 b0, .int .i64 a0, .int .i64 b1, .int .i64 a1, .bool true] 56)
    rw [World.size_alloc, World.size_alloc, World.size_alloc] at hd
    clear hz hy
    obtain ⟨w3, hw3⟩ : ∃ w3, w3 = (((w.alloc (.cells #[.int .i64 b0, .int .i64 b1] 53)).alloc (.cells #[.int .i64 a0, .int .i64 a1] 53)).alloc (.cells #[.int .i64 0, .int .i64 0, .int .i64 0, .int .i64 0, .bool false] 56)).alloc (.cells #[.int .i64 b0, .int .i64 a0, .int .i64 b1, .int .i64 a1, .bool true] 56) := ⟨_, rfl⟩
    rw [← hw3] at HN hz2 hy2 hd ⊢
    clear hw3
    obtain ⟨B1, hB1⟩ : ∃ B, B = w.heap.size + 1 := ⟨_, rfl⟩
    obtain ⟨B2, hB2⟩ : ∃ B, B = w.heap.size + 1 + 1 := ⟨_, rfl⟩
    obtain ⟨B3, hB3⟩ : ∃ B, B = w.heap.size + 1 + 1 + 1 := ⟨_, rfl⟩
    have n13 : ¬ B1 = B3 := by omega
    have n23 : ¬ B2 = B3 := by omega
    have HL := Lib.hid (show w.heap.size ≤ B2 ∧ w.heap.size ≤ B3 by omega)
    rw [← hB3] at hd ⊢
    rw [← hB2] at hz2 ⊢
    rw [← hB1] at hy2 ⊢
    clear hB1 hB2 hB3
    obtain ⟨f0, f1, _, _⟩ := box2_c hy2
    have HF1 := fun v => (Fr.refl (fun k => k = B3) w3).setCell (a := ⟨B3, 1, none⟩) (.inl rfl) v
    have f3 := fun v => (HF1 v).cell f0 n13
    obtain ⟨_, d1, _, d3, _, _, r1, _, r3, _⟩ := mk5_c hd
    obtain ⟨_, _, _, e3, _, _, _, _, q3, _⟩ := mk5_c (mk5_set1 hd (.int .i64 a1))
    have HD := Lib.hid (mk5_set3 (mk5_set1 hd (.int .i64 a1)) (.int .i64 a0))
    have HZ := Lib.hid (((HF1 (.int .i64 a1)).setCell (a := ⟨B3, 3, none⟩) (.inl rfl) (.int .i64 a0)).blk hz2 n23)
    have HF2 := Lib.hid (HN.out.next ((HF1 (.int .i64 a1)).setCell (a := ⟨B3, 3, none⟩) (.inl rfl) (.int .i64 a0)) fun i hi => .inr (by rw [hi]; exact HL.out.2))
    clear HF1 hy2 hz2 hd
    go_region
    clear f0 f1 f3 d1 d3 r1 r3 e3 q3
    have HD4 : Hid ((((w3.setCell ⟨B3, 1, none⟩ (.int .i64 a1)).setCell ⟨B3, 3, none⟩ (.int .i64 a0)).drew).heap[B3]? = some (.cells #[.int .i64 b0, .int .i64 a1, .int .i64 b1, .int .i64 a0, .bool true] 56 (0, 0))) := HD
    have HZ4 : Hid ((((w3.setCell ⟨B3, 1, none⟩ (.int .i64 a1)).setCell ⟨B3, 3, none⟩ (.int .i64 a0)).drew).heap[B2]? = some (.cells #[.int .i64 0, .int .i64 0, .int .i64 0, .int .i64 0, .bool false] 56 (0, 0))) := HZ
    have HF4 := Lib.hid (Fr.drew HF2.out)
    obtain ⟨w4, HW4⟩ : ∃ w4, w4 = ((w3.setCell ⟨B3, 1, none⟩ (.int .i64 a1)).setCell ⟨B3, 3, none⟩ (.int .i64 a0)).drew := ⟨_, rfl⟩
    rw [← HW4] at HD4 HZ4 HF4 ⊢
    clear HD HZ HF2 HN HW4
    obtain ⟨x1, x2, x3, x4, x5, _⟩ := mk5_c HD4.out
    obtain ⟨q1, q2, q3, q4, q5, q6, q7, q8, q9, q10⟩ := mk5_c HZ4.out
    go_wp2
    have he := mk5_set HZ4.out (.int .i64 b0) (.int .i64 a1) (.int .i64 b1) (.int .i64 a0) (.bool true)
    have HFE := Lib.hid (HF4.out.next (mk5_fr w4 B2 (.int .i64 b0) (.int .i64 a1) (.int .i64 b1) (.int .i64 a0) (.bool true)) fun i hi => .inr (by rw [hi]; exact HL.out.1))
    obtain ⟨y1, y2, y3, y4, y5, _⟩ := mk5_c he
    exact bodyPost_ret (v := .agg #[.int .i64 b0, .int .i64 a1, .int .i64 b1, .int .i64 a0, .bool true]) (by simp [results, Tryd.results19, go_sem, y1, y2, y3, y4, y5]) rfl ⟨rfl, HFE.out⟩
end Go.Proofs.YtdelekkbkpldjaaDoor
