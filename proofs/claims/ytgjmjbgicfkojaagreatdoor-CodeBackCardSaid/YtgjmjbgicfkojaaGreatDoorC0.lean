/- '!=' of two crossings. -/
import Derived.Laws.StructEq
import Derived.Test.YtgjmjbgicfkojaaGreatDoorW5
namespace Go.Proofs.YtgjmjbgicfkojaaGreatDoor
open Go.RowKit

theorem Tryz.eq42a : Tryz.prog.eqGuardType Tryz.prog.depth 33 = false := by kernel_rfl
theorem Tryz.eq42b : Tryz.prog.stoodInHeld 33 = false := by kernel_rfl
theorem Tryz.eq42c : Tryz.prog.underlying 33 = some (.struct (Tryz.prog.fieldsOf 33)) := by kernel_rfl
theorem Tryz.eq42d : (Tryz.prog.fieldsOf 33).toList.map (fun f => (f.type, f.name, f.offset)) = [(3, "A", 0), (3, "B", 1), (3, "C", 2), (3, "D", 3), (4, "Plus", 4)] := by kernel_rfl
theorem Tryz.infoB : (Tryz.prog.info? 4).map (fun i => (i.zero, i.size, i.bytes)) = some (some (.bool false), 1, 1) := by kernel_rfl
theorem ne42 (w : World) (x y : Kn.Cr) : (binOp .neq 33 (crV x) (crV y)).run Tryz.prog w = .ok (.bool (!decide (x = y))) w := by
  obtain ⟨a, b, c, d, p⟩ := x
  obtain ⟨a', b', c', d', p'⟩ := y
  show (binOp .neq 33 (.agg #[.int .i64 a, .int .i64 b, .int .i64 c, .int .i64 d, .bool p]) (.agg #[.int .i64 a', .int .i64 b', .int .i64 c', .int .i64 d', .bool p'])).run Tryz.prog w = _
  rw [run_neq_struct, run_equalIn_agg _ _ _ _ _ Tryz.eq42c Tryz.eq42b]
  have h4 := Tryz.eq42d
  rcases h : (Tryz.prog.fieldsOf 33).toList with _ | ⟨f1, _ | ⟨f2, _ | ⟨f3, _ | ⟨f4, _ | ⟨f5, _ | ⟨f6, r⟩⟩⟩⟩⟩⟩ <;> simp [h] at h4
  obtain ⟨⟨t1, n1, o1⟩, ⟨t2, n2, o2⟩, ⟨t3, n3, o3⟩, ⟨t4, n4, o4⟩, t5, n5, o5⟩ := h4
  have hu := Tryz.underlying3
  have hb := Tryz.underlying4
  obtain ⟨i0, hi0, _, hz2, _⟩ := info_parts Tryz.info3
  obtain ⟨i1, hi1, _, hz4, _⟩ := info_parts Tryz.infoB
  have key : (decide ((⟨a, b, c, d, p⟩ : Kn.Cr) = ⟨a', b', c', d', p'⟩)) = (a == a' && (b == b' && (c == c' && (d == d' && p == p')))) := by
    rw [Bool.eq_iff_iff]; simp
  rw [key]
  cases h1 : a == a'
  · simp [go_sem, Op.eqFields, n1, n2, n3, n4, n5, t1, t2, t3, t4, t5, o1, o2, o3, o4, o5, part, sizeOf, typeInfo, hi0, hz2, hi1, hz4, run_equalIn_int _ _ _ .i64 .i64 _ _ hu, run_equalIn_bool _ _ _ _ _ hb, h1]
  cases h2 : b == b'
  · simp [go_sem, Op.eqFields, n1, n2, n3, n4, n5, t1, t2, t3, t4, t5, o1, o2, o3, o4, o5, part, sizeOf, typeInfo, hi0, hz2, hi1, hz4, run_equalIn_int _ _ _ .i64 .i64 _ _ hu, run_equalIn_bool _ _ _ _ _ hb, h1, h2]
  cases h3 : c == c'
  · simp [go_sem, Op.eqFields, n1, n2, n3, n4, n5, t1, t2, t3, t4, t5, o1, o2, o3, o4, o5, part, sizeOf, typeInfo, hi0, hz2, hi1, hz4, run_equalIn_int _ _ _ .i64 .i64 _ _ hu, run_equalIn_bool _ _ _ _ _ hb, h1, h2, h3]
  cases h4 : d == d'
  · simp [go_sem, Op.eqFields, n1, n2, n3, n4, n5, t1, t2, t3, t4, t5, o1, o2, o3, o4, o5, part, sizeOf, typeInfo, hi0, hz2, hi1, hz4, run_equalIn_int _ _ _ .i64 .i64 _ _ hu, run_equalIn_bool _ _ _ _ _ hb, h1, h2, h3, h4]
  cases h5 : p == p' <;> simp [go_sem, Op.eqFields, n1, n2, n3, n4, n5, t1, t2, t3, t4, t5, o1, o2, o3, o4, o5, part, sizeOf, typeInfo, hi0, hz2, hi1, hz4, run_equalIn_int _ _ _ .i64 .i64 _ _ hu, run_equalIn_bool _ _ _ _ _ hb, h1, h2, h3, h4, h5]
/- '!=' of two crossings, as the walk asks it -/
theorem ne42v (w : World) (a b c d : Int) (p : Bool) (a' b' c' d' : Int) (p' : Bool) (r : Bool) (hr : r = !decide ((⟨a, b, c, d, p⟩ : Kn.Cr) = ⟨a', b', c', d', p'⟩)) :
    (binOp .neq 33 (.agg #[.int .i64 a, .int .i64 b, .int .i64 c, .int .i64 d, .bool p]) (.agg #[.int .i64 a', .int .i64 b', .int .i64 c', .int .i64 d', .bool p'])).run Tryz.prog w = .ok (.bool r) w := by
  rw [hr]; exact ne42 w ⟨a, b, c, d, p⟩ ⟨a', b', c', d', p'⟩
theorem cr_parts (X : List Kn.Cr) (k : Nat) : ∃ a b c d p, Hid (Kn.cr X k = ⟨a, b, c, d, p⟩) := ⟨_, _, _, _, _, Lib.hid rfl⟩
end Go.Proofs.YtgjmjbgicfkojaaGreatDoor
