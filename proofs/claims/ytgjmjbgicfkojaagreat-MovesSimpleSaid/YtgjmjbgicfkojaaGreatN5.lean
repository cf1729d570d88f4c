/- Walks: need; what Do defers. -/
import Derived.Defers
import Derived.Recover
import Derived.Test.YtgjmjbgicfkojaaGreatN4
namespace Go.Proofs.YtgjmjbgicfkojaaGreat
open Go.RowKit
theorem need_yes (e : Int) (w : World) : Calls Tryz.prog 46 #[.bool true, .int .i64 e] w (fun r w' => r = .returned (.tuple #[]) ∧ w' = w) := by
  go_enter Tryz.func46, Tryz.ntmps46
  go_wp2
  go_end0
  exact ⟨rfl, rfl⟩
/- the panic with which a move is refused -/
abbrev wrongP (e : Int) : List PanicEntry := [{ v := .iface 60 (.agg #[.int .i64 e]), recovered := false }]
theorem need_no (e : Int) (w : World) : Calls Tryz.prog 46 #[.bool false, .int .i64 e] w (fun r w' => r = .panicked (wrongP e) ∧ w' = w) := by
  go_enter Tryz.func46, Tryz.ntmps46
  go_wp2
  exact ⟨rfl, rfl, rfl⟩
set_option maxRecDepth 100000 in
set_option maxHeartbeats 1000000 in
theorem do1_idle (bo bq : Nat) (w : World) :
    CallsD Tryz.prog 19 #[.pointer (some ⟨bo, 0, none⟩), .pointer (some ⟨bq, 0, none⟩)] .returning w fun e u' w' => e = .returned (.tuple #[]) ∧ u' = .returning ∧ w' = w := by
  refine callsD_of_wpS Tryz.func19 rfl fun c₀ cs hu => ?_
  apply wpS_seq
  apply wpS_region
  simp [wpOpsS, go_sem, recoverD, hu, Tryz.ntmps19, Exit.thenS]
  refine wpS_of_wp ?_
  change Code.wp _ _ _ { tmps := #[.pointer (some ⟨bo, 0, none⟩), .pointer (some ⟨bq, 0, none⟩), Value.nilIface, undef, undef, Value.nilIface, undef, undef, undef, undef, undef, undef, undef, undef, undef, undef, undef, undef, undef], defers := [] } w
  go_wp2
  cases c₀
  simp_all [bodyPostS, results, Tryz.results19]
set_option maxRecDepth 100000 in
set_option maxHeartbeats 1000000 in
theorem do1_panic (bo bq t t' : Nat) (e e0 : Int) (x0 x1 : Value) (w : World) (hne : bo ≠ bq) (ho : w.heap[bo]? = some (.cells #[x0, x1] t (0, 0))) (hq : w.heap[bq]? = some (.cells #[.int .i64 e0] t' (0, 0))) :
    CallsD Tryz.prog 19 #[.pointer (some ⟨bo, 0, none⟩), .pointer (some ⟨bq, 0, none⟩)] (.panicking (wrongP e)) w fun r u' w' => r = .returned (.tuple #[]) ∧ u' = .panicking [{ v := .iface 60 (.agg #[.int .i64 e]), recovered := true }] ∧ Fr (fun k => k = bo ∨ k = bq) w w' ∧ w'.cell? ⟨bo, 0, none⟩ = some (.slice none 0 0) ∧ w'.cell? ⟨bo, 1, none⟩ = some (.int .i64 0) ∧ w'.cell? ⟨bq, 0, none⟩ = some (.int .i64 e) := by
  have hta : ∀ w : World, Sem.run Tryz.prog (Instr.typeAssert (.iface 60 (.agg #[.int .i64 e])) 20 60 true) w = .ok (.tuple #[.agg #[.int .i64 e], .bool true]) w := fun w => by kernel_rfl
  refine callsD_of_wpS Tryz.func19 rfl fun c₀ cs hu => ?_
  apply wpS_seq
  apply wpS_region
  simp [wpOpsS, go_sem, recoverD, hu, Tryz.ntmps19, Exit.thenS]
  refine wpS_of_wp ?_
  change Code.wp _ _ _ { tmps := #[.pointer (some ⟨bo, 0, none⟩), .pointer (some ⟨bq, 0, none⟩), .iface 60 (.agg #[.int .i64 e]), undef, undef, .iface 60 (.agg #[.int .i64 e]), undef, undef, undef, undef, undef, undef, undef, undef, undef, undef, undef, undef, undef], defers := [] } w
  go_wp2
  have l0 : bo < w.heap.size := (Array.getElem?_eq_some_iff.1 ho).1
  have lq : bq < w.heap.size := (Array.getElem?_eq_some_iff.1 hq).1
  have HF0 := (Fr.refl (fun _ => False) w).alloc (.cells #[.int .i64 e] 60)
  have ho1 := HF0.blk ho fun x => x
  have hq1 := HF0.blk hq fun x => x
  have hn1 := heap_alloc_new w (.cells #[.int .i64 e] 60)
  obtain ⟨w1, HW1⟩ : ∃ w1, w.alloc (.cells #[.int .i64 e] 60) = w1 := ⟨_, rfl⟩
  rw [HW1] at ho1 hq1 hn1 HF0 ⊢
  obtain ⟨bn, HBN⟩ : ∃ bn, w.heap.size = bn := ⟨_, rfl⟩
  rw [HBN] at hn1 ⊢
  have n1 : ¬ bn = bo := by omega
  have n2 : ¬ bq = bo := fun h => hne h.symm
  have n3 : ¬ bn = bq := by omega
  have HN0 := Lib.hid HF0
  clear HF0 HW1 HBN l0 lq ho hq
  obtain ⟨m1, m2, m3, m4, m5, m6⟩ := res2 ho1
  have hS := fun Y Z => ((Fr.refl (fun k => k = bo) w1).setCell (a := ⟨bo, 0, none⟩) (.inl rfl) Y).setCell (a := ⟨bo, 1, none⟩) (.inl rfl) Z
  have hS1 := fun Y => ((Fr.refl (fun k => k = bo) w1).setCell (a := ⟨bo, 0, none⟩) (.inl rfl) Y)
  have d0 : w1.cell? ⟨bn, 0, none⟩ = some (.int .i64 e) := cell_of_row _ _ 0 _ 60 (0, 0) hn1
  have d1 : ∀ Y, (w1.setCell ⟨bo, 0, none⟩ Y).cell? ⟨bn, 0, none⟩ = some (.int .i64 e) := fun Y => (hS1 Y).cell d0 n1
  have d2 : ∀ Y Z, ((w1.setCell ⟨bo, 0, none⟩ Y).setCell ⟨bo, 1, none⟩ Z).cell? ⟨bn, 0, none⟩ = some (.int .i64 e) := fun Y Z => (hS Y Z).cell d0 n1
  have hq2 := fun Y Z => (hS Y Z).blk hq1 n2
  have e1 : ∀ Y Z, ((w1.setCell ⟨bo, 0, none⟩ Y).setCell ⟨bo, 1, none⟩ Z).cell? ⟨bq, 0, none⟩ = some (.int .i64 e0) := fun Y Z => cell_of_row _ _ 0 _ t' (0, 0) (hq2 Y Z)
  have e2 : ∀ Y Z, ((w1.setCell ⟨bo, 0, none⟩ Y).setCell ⟨bo, 1, none⟩ Z).frozen? ⟨bq, 0, none⟩ = false := fun Y Z => by simp [World.frozen?, hq2 Y Z]
  have e3 : ∀ Y Z U, (((w1.setCell ⟨bo, 0, none⟩ Y).setCell ⟨bo, 1, none⟩ Z).setCell ⟨bq, 0, none⟩ U).cell? ⟨bq, 0, none⟩ = some U := fun Y Z U => by
    have := hq2 Y Z
    simp [World.cell?, World.setCell, Array.getElem?_modify] at this ⊢
    simp [this]
  have HE3 := Lib.hid e3
  have HFF : Hid (∀ Y Z U, Fr (fun k => k = bo ∨ k = bq) w (((w1.setCell ⟨bo, 0, none⟩ Y).setCell ⟨bo, 1, none⟩ Z).setCell ⟨bq, 0, none⟩ U)) := Lib.hid fun Y Z U =>
    ((((HN0.out.mono fun _ h => h.elim).setCell (a := ⟨bo, 0, none⟩) (.inl (.inl rfl)) Y).setCell (a := ⟨bo, 1, none⟩) (.inl (.inl rfl)) Z).setCell (a := ⟨bq, 0, none⟩) (.inl (.inr rfl)) U)
  clear hS hS1 hq2 hq1 hn1 ho1 e3
  go_region
  have HP : Hid (Fr (fun k => k = bo ∨ k = bq) w (((w1.setCell ⟨bo, 0, none⟩ (.slice none 0 0)).setCell ⟨bo, 1, none⟩ (.int .i64 0)).setCell ⟨bq, 0, none⟩ (.int .i64 e)).drew ∧
      (((w1.setCell ⟨bo, 0, none⟩ (.slice none 0 0)).setCell ⟨bo, 1, none⟩ (.int .i64 0)).setCell ⟨bq, 0, none⟩ (.int .i64 e)).drew.cell? ⟨bo, 0, none⟩ = some (.slice none 0 0) ∧
      (((w1.setCell ⟨bo, 0, none⟩ (.slice none 0 0)).setCell ⟨bo, 1, none⟩ (.int .i64 0)).setCell ⟨bq, 0, none⟩ (.int .i64 e)).drew.cell? ⟨bo, 1, none⟩ = some (.int .i64 0) ∧
      (((w1.setCell ⟨bo, 0, none⟩ (.slice none 0 0)).setCell ⟨bo, 1, none⟩ (.int .i64 0)).setCell ⟨bq, 0, none⟩ (.int .i64 e)).drew.cell? ⟨bq, 0, none⟩ = some (.int .i64 e)) :=
    Lib.hid ⟨(HFF.out _ _ _).drew, ((Fr.refl (fun k => k = bq) _).setCell (a := ⟨bq, 0, none⟩) (.inl rfl) _).cell (m5 _ _) hne, ((Fr.refl (fun k => k = bq) _).setCell (a := ⟨bq, 0, none⟩) (.inl rfl) _).cell (m6 _ _) hne, HE3.out _ _ _⟩
  generalize (((w1.setCell ⟨bo, 0, none⟩ (.slice none 0 0)).setCell ⟨bo, 1, none⟩ (.int .i64 0)).setCell ⟨bq, 0, none⟩ (.int .i64 e)).drew = wz at HP ⊢
  clear m1 m2 m3 m4 m5 m6 d0 d1 d2 e1 e2 HE3 HFF
  go_wp2
  cases c₀
  simp [bodyPostS, results, Tryz.results19]
  exact HP.out
end Go.Proofs.YtgjmjbgicfkojaaGreat
