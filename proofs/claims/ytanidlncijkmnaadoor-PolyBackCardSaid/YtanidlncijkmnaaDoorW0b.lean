/- Two terms, told apart by '!=': what the model answers. -/
import Derived.Test.YtanidlncijkmnaaDoorW0
import Derived.Laws.StructEq
namespace Go.Proofs.YtanidlncijkmnaaDoor
open Go.RowKit
theorem q1 : Tryd.prog.eqGuardType Tryd.prog.depth 31 = false := by kernel_rfl
theorem q2 : Tryd.prog.stoodInHeld 31 = false := by kernel_rfl
theorem q3 : Tryd.prog.underlying 31 = some (.struct (Tryd.prog.fieldsOf 31)) := by kernel_rfl
theorem q4 : (Tryd.prog.fieldsOf 31).toList.map (fun f => (f.type, f.name, f.offset)) = [(3, "Exp", 0), (3, "Coef", 1)] := by kernel_rfl
theorem info3 : (Tryd.prog.info? 3).map (fun i => (i.zero, i.size, i.bytes)) = some (some (.int .i64 0), 1, 8) := by kernel_rfl
theorem hne (w : World) (a b c d : Int) : (binOp .neq 31 (.agg #[.int .i64 a, .int .i64 b]) (.agg #[.int .i64 c, .int .i64 d])).run Tryd.prog w = .ok (.bool (!(a == c && b == d))) w := by
  rw [run_neq_struct, run_equalIn_agg _ _ _ _ _ q3 q2]
  have h4 := q4
  rcases h : (Tryd.prog.fieldsOf 31).toList with _ | ⟨f1, _ | ⟨f2, _ | ⟨f3, r⟩⟩⟩ <;> simp [h] at h4
  obtain ⟨⟨t1, n1, o1⟩, t2, n2, o2⟩ := h4
  have hu := Tryd.underlying3
  obtain ⟨i0, hi0, hz2⟩ := info_parts info3
  cases hac : a == c <;> simp [go_sem, Op.eqFields, n1, n2, t1, t2, o1, o2, part, sizeOf, typeInfo, hi0, run_equalIn_int _ _ _ .i64 .i64 _ _ hu, hac]
  by_cases hbd : b = d <;> simp [hbd]
end Go.Proofs.YtanidlncijkmnaaDoor
