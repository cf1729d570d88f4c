/- Walks: renamed, of a diagram without crossings. -/
import Derived.Test.YtgjmjbgicfkojaaW37
namespace Go.Proofs.Ytgjmjbgicfkojaa
open Go.RowKit

set_option maxRecDepth 100000 in
set_option maxHeartbeats 4000000 in
theorem renamed_nil (a a1 a2 : Option Addr) (c k1 c1 k2 c2 : Nat) (L : Int) (w : World) :
    Calls Try.prog 11 #[.agg #[.slice a 0 c, .int .i64 L], .slice a1 k1 c1, .slice a2 k2 c2] w (GaveRen [] L w) := by
  have hmk : ∀ w, (Instr.makeSlice 35 (.int .i64 1) (.int .i64 1)).run Try.prog w = .ok (.slice (some ⟨w.heap.size, 0, none⟩) 1 1) (w.alloc (.cells (madeCells #[.int .i64 0] 1) 3)) := fun w =>
    run_make_row' (P := Try.prog) 35 3 (.int .i64 0) 8 Try.underlying35 Try.info3 rfl .i64 .i64 1 (by omega) (by omega) w
  have hd0 : (0 : Int) < (1 : Int) := by omega
  go_enter Try.func11, Try.ntmps11
  go_wp2
  obtain ⟨w1, HW1⟩ : ∃ w1, Hid (w1 = (((w.alloc (.cells #[.slice a 0 c, .int .i64 L] 24)).alloc (.cells #[.slice none 0 0, .int .i64 0] 24)).alloc (.cells (madeCells #[.int .i64 0] 1) 3))) := ⟨_, Lib.hid rfl⟩
  obtain ⟨nb, HNB⟩ : ∃ nb, Hid (nb = w.heap.size + 1 + 1) := ⟨_, Lib.hid rfl⟩
  rw [← HW1.out, ← HNB.out]
  obtain ⟨bv, HBV⟩ : ∃ bv : Array Value, Hid (bv = #[.slice a 0 c, .int .i64 L]) := ⟨_, Lib.hid rfl⟩
  have H1 : Hid (RnI w w1 bv nb 1 fun _ => 0) := Lib.hid (by
    have h1 := (((Fr.refl (fun _ => False) (w.alloc (.cells #[.slice a 0 c, .int .i64 L] 24))).alloc (.cells #[.slice none 0 0, .int .i64 0] 24)).alloc (.cells (madeCells #[.int .i64 0] 1) 3)).blk (heap_alloc_new w (.cells #[.slice a 0 c, .int .i64 L] 24)) fun x => x
    have h2 := heap_alloc_new (w.alloc (.cells #[.slice a 0 c, .int .i64 L] 24)) (.cells #[.slice none 0 0, .int .i64 0] 24)
    rw [World.size_alloc] at h2
    have h3 := World.rowIs_made ((w.alloc (.cells #[.slice a 0 c, .int .i64 L] 24)).alloc (.cells #[.slice none 0 0, .int .i64 0] 24)) (.int .i64 0) 1 3
    rw [World.size_alloc, World.size_alloc] at h3
    rw [HW1.out, HNB.out, HBV.out]
    refine ⟨(((Fr.refl _ w).alloc _).alloc _).alloc _, h1, rowIs_congr h3 fun j _ => rfl, ((Fr.refl (fun _ => False) _).alloc _).blk h2 fun x => x, by omega⟩)
  have hc := H1.out.row.cell (i := 0) (by omega)
  have hf := H1.out.row.frozen 0
  simp only [numFn] at hc
  refine wp_loop_rounds 2 ?_
  rw [rounds_succ]
  go_wp2
  have H2 : Hid (RnI w (w1.setCell ⟨nb, 0, none⟩ (.int .i64 (0 : Nat))) bv nb 1 fun x => if x = 0 then 0 else 0) := Lib.hid (H1.out.put 0 0)
  have hbx := H2.out.bx
  rw [HBV.out] at hbx
  obtain ⟨p0, p1, _, _⟩ := box2_c hbx
  have HRES := Lib.hid H2.out.res
  clear hbx hc hf
  obtain ⟨w2, HW2⟩ : ∃ w2, Hid (w2 = w1.setCell ⟨nb, 0, none⟩ (.int .i64 (0 : Nat))) := ⟨_, Lib.hid rfl⟩
  have hw2 : w1.setCell ⟨nb, 0, none⟩ (.int .i64 0) = w2 := HW2.out.symm
  rw [← HW2.out] at p0 p1 HRES H2
  rw [hw2]
  rw [rounds_succ]
  have HJ : Hid (RnJ w (w2.alloc (.cells #[.slice none 0 0, .int .i64 L] 24)) bv nb w2.heap.size 0 (fun x => if x = 0 then 0 else 0) L (Kn.renL [] (fun a => a) (fun x => if x = 0 then 0 else 0)) (.slice none 0 0)) := Lib.hid
    ⟨H2.out.nw ((Fr.refl _ w2).alloc _), heap_alloc_new _ _, H2.out.row.lt, ⟨rfl, .inl ⟨rfl, rfl⟩⟩⟩
  have q0 := cell_alloc p0 (.cells #[.slice none 0 0, .int .i64 L] 24)
  obtain ⟨o0, o1, _, _⟩ := box2_c HJ.out.bo
  have hb1 := (box2_set HJ.out.i.res (.slice none 0 0)).1
  have hb2 := (box2_set hb1 (.int .i64 L)).2
  obtain ⟨e0, _, z0, _⟩ := box2_c HJ.out.i.res
  obtain ⟨_, e1, _, z1⟩ := box2_c hb1
  obtain ⟨m5, m6, _, _⟩ := box2_c hb2
  have HG := Lib.hid (HJ.out.gave rfl (Kn.Pos.id 0) ⟨fun a h1 h2 => by omega, fun a b h1 h2 => by omega⟩)
  clear hb1 hb2
  by_cases h1 : 0 < k1
  · have h1' : (0 : Int) < (k1 : Int) := by omega
    go_wp2
    refine wp_loop_rounds 1 ?_
    rw [rounds_succ]
    go_wp2
    refine wp_loop_rounds 1 ?_
    rw [rounds_succ]
    by_cases h2 : 0 < k2
    · have h2' : (0 : Int) < (k2 : Int) := by omega
      go_wp2
      refine wp_loop_rounds 1 ?_
      rw [rounds_succ]
      go_wp2
      exact bodyPost_ret (v := .agg #[.slice none 0 0, .int .i64 L]) (by simp [results, Try.results11, go_sem, m5, m6]) rfl HG.out
    · have h2' : ¬ (0 : Int) < (k2 : Int) := by omega
      go_wp2
      refine wp_loop_rounds 1 ?_
      rw [rounds_succ]
      go_wp2
      exact bodyPost_ret (v := .agg #[.slice none 0 0, .int .i64 L]) (by simp [results, Try.results11, go_sem, m5, m6]) rfl HG.out
  · have h1' : ¬ (0 : Int) < (k1 : Int) := by omega
    go_wp2
    refine wp_loop_rounds 1 ?_
    rw [rounds_succ]
    go_wp2
    refine wp_loop_rounds 1 ?_
    rw [rounds_succ]
    by_cases h2 : 0 < k2
    · have h2' : (0 : Int) < (k2 : Int) := by omega
      go_wp2
      refine wp_loop_rounds 1 ?_
      rw [rounds_succ]
      go_wp2
      exact bodyPost_ret (v := .agg #[.slice none 0 0, .int .i64 L]) (by simp [results, Try.results11, go_sem, m5, m6]) rfl HG.out
    · have h2' : ¬ (0 : Int) < (k2 : Int) := by omega
      go_wp2
      refine wp_loop_rounds 1 ?_
      rw [rounds_succ]
      go_wp2
      exact bodyPost_ret (v := .agg #[.slice none 0 0, .int .i64 L]) (by simp [results, Try.results11, go_sem, m5, m6]) rfl HG.out
end Go.Proofs.Ytgjmjbgicfkojaa
