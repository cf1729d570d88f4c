/- Walks: slices.Equal of crossings. -/
import Derived.Laws.StructEq
import Derived.Test.YtgjmjbgicfkojaaW5
namespace Go.Proofs.Ytgjmjbgicfkojaa
open Go.RowKit

theorem Try.eq42a : Try.prog.eqGuardType Try.prog.depth 42 = false := by kernel_rfl
theorem Try.eq42b : Try.prog.stoodInHeld 42 = false := by kernel_rfl
theorem Try.eq42c : Try.prog.underlying 42 = some (.struct (Try.prog.fieldsOf 42)) := by kernel_rfl
theorem Try.eq42d : (Try.prog.fieldsOf 42).toList.map (fun f => (f.type, f.name, f.offset)) = [(3, "A", 0), (3, "B", 1), (3, "C", 2), (3, "D", 3), (4, "Plus", 4)] := by kernel_rfl
theorem Try.infoB : (Try.prog.info? 4).map (fun i => (i.zero, i.size, i.bytes)) = some (some (.bool false), 1, 1) := by kernel_rfl
theorem ne42 (w : World) (x y : Kn.Cr) : (binOp .neq 42 (crV x) (crV y)).run Try.prog w = .ok (.bool (!decide (x = y))) w := by
  obtain ⟨a, b, c, d, p⟩ := x
  obtain ⟨a', b', c', d', p'⟩ := y
  show (binOp .neq 42 (.agg #[.int .i64 a, .int .i64 b, .int .i64 c, .int .i64 d, .bool p]) (.agg #[.int .i64 a', .int .i64 b', .int .i64 c', .int .i64 d', .bool p'])).run Try.prog w = _
  rw [run_neq_struct, run_equalIn_agg _ _ _ _ _ Try.eq42c Try.eq42b]
  have h4 := Try.eq42d
  rcases h : (Try.prog.fieldsOf 42).toList with _ | ⟨f1, _ | ⟨f2, _ | ⟨f3, _ | ⟨f4, _ | ⟨f5, _ | ⟨f6, r⟩⟩⟩⟩⟩⟩ <;> simp [h] at h4
  obtain ⟨⟨t1, n1, o1⟩, ⟨t2, n2, o2⟩, ⟨t3, n3, o3⟩, ⟨t4, n4, o4⟩, t5, n5, o5⟩ := h4
  have hu := Try.underlying3
  have hb := Try.underlying4
  obtain ⟨i0, hi0, _, hz2, _⟩ := info_parts Try.info3
  obtain ⟨i1, hi1, _, hz4, _⟩ := info_parts Try.infoB
  have key : (decide ((⟨a, b, c, d, p⟩ : Kn.Cr) = ⟨a', b', c', d', p'⟩)) = (a == a' && (b == b' && (c == c' && (d == d' && p == p')))) := by
    rw [Bool.eq_iff_iff]; simp
  rw [key]
  cases h1 : a == a'
  · simp [go_sem, Op.eqFields, n1, n2, n3, n4, n5, t1, t2, t3, t4, t5, o1, o2, o3, o4, o5, part, sizeOf, typeInfo, hi0, hz2, hi1, hz4, run_equalIn_int _ _ _ .i64 .i64 _ _ hu, run_equalIn_bool _ _ _ _ _ hb, h1]
  cases h2 : b == b'
  · simp [go_sem, Op.eqFields, n1, n2, n3, n4, n5, t1, t2, t3, t4, t5, o1, o2, o3, o4, o5, part, sizeOf, typeInfo, hi0, hz2, hi1, hz4, run_equalIn_int _ _ _ .i64 .i64 _ _ hu, run_equalIn_bool _ _ _ _ _ hb, h1, h2]
  cases h3 : c == c'
  · simp [go_sem, Op.eqFields, n1, n2, n3, n4, n5, t1, t2, t3, t4, t5, o1, o2, o3, o4, o5, part, sizeOf, typeInfo, hi0, hz2, hi1, hz4, run_equalIn_int _ _ _ .i64 .i64 _ _ hu, run_equalIn_bool _ _ _ _ _ hb, h1, h2, h3]
  cases h4 : d == d'
  · simp [go_sem, Op.eqFields, n1, n2, n3, n4, n5, t1, t2, t3, t4, t5, o1, o2, o3, o4, o5, part, sizeOf, typeInfo, hi0, hz2, hi1, hz4, run_equalIn_int _ _ _ .i64 .i64 _ _ hu, run_equalIn_bool _ _ _ _ _ hb, h1, h2, h3, h4]
  cases h5 : p == p' <;> simp [go_sem, Op.eqFields, n1, n2, n3, n4, n5, t1, t2, t3, t4, t5, o1, o2, o3, o4, o5, part, sizeOf, typeInfo, hi0, hz2, hi1, hz4, run_equalIn_int _ _ _ .i64 .i64 _ _ hu, run_equalIn_bool _ _ _ _ _ hb, h1, h2, h3, h4, h5]
/- '!=' of two crossings, as the walk asks it -/
theorem ne42v (w : World) (a b c d : Int) (p : Bool) (a' b' c' d' : Int) (p' : Bool) (r : Bool) (hr : r = !decide ((⟨a, b, c, d, p⟩ : Kn.Cr) = ⟨a', b', c', d', p'⟩)) :
    (binOp .neq 42 (.agg #[.int .i64 a, .int .i64 b, .int .i64 c, .int .i64 d, .bool p]) (.agg #[.int .i64 a', .int .i64 b', .int .i64 c', .int .i64 d', .bool p'])).run Try.prog w = .ok (.bool r) w := by
  rw [hr]; exact ne42 w ⟨a, b, c, d, p⟩ ⟨a', b', c', d', p'⟩
theorem cr_ext {X Y : List Kn.Cr} (hl : X.length = Y.length) (h : ∀ j, j < X.length → Kn.cr X j = Kn.cr Y j) : X = Y := by
  refine List.ext_getElem hl fun i h1 h2 => ?_
  have := h i h1
  simpa [Kn.cr, List.getD_eq_getElem?_getD, h1, h2] using this
theorem cr_ne {X Y : List Kn.Cr} {k : Nat} (h : Kn.cr X k ≠ Kn.cr Y k) : X ≠ Y := fun e => h (by rw [e])
theorem cr_parts (X : List Kn.Cr) (k : Nat) : ∃ a b c d p, Hid (Kn.cr X k = ⟨a, b, c, d, p⟩) := ⟨_, _, _, _, _, Lib.hid rfl⟩

set_option maxRecDepth 100000 in
set_option maxHeartbeats 1000000 in
theorem equal_any (a a' : Option Addr) (n m c c' : Nat) (X Y : List Kn.Cr) (w : World) (hx : CrsAt w a X) (hy : CrsAt w a' Y) (hn : n = X.length) (hm : m = Y.length) (l1 : n ≤ 1000) (l2 : m ≤ 1000) :
    Calls Try.prog 27 #[.slice a n c, .slice a' m c'] w fun e w' => e = .returned (.bool (decide (X = Y))) ∧ New w w' := by
  have HX := Lib.hid hx
  have HY := Lib.hid hy
  have HN := Lib.hid hn
  have HM := Lib.hid hm
  clear hx hy hn hm
  have q1 := Try.eq42a
  by_cases h : n = m
  · subst h
    go_enter Try.func27, Try.ntmps27
    go_wp2
    go_loopw [13] (fun i wr => ∃ k : Nat, k ≤ n ∧ i = .int .i64 k ∧ Hid (New w wr) ∧ Hid (∀ j, j < k → Kn.cr X j = Kn.cr Y j)) (fun i _ => n - (intOf i).toNat)
    case atStart => exact ⟨0, by omega, rfl, Lib.hid (Fr.refl _ _), Lib.hid fun j hj => by omega⟩
    case round =>
      obtain ⟨k, hk, rfl, HF, HE⟩ := hrel
      by_cases hlt : k < n
      · obtain ⟨b, o, rfl, d1⟩ := (New.crs HF.out HX.out).at (k := k) (by have := HN.out; omega)
        obtain ⟨b', o', rfl, d2⟩ := (New.crs HF.out HY.out).at (k := k) (by have := HM.out; omega)
        obtain ⟨x1, x2, x3, x4, x5, H1⟩ := cr_parts X k
        obtain ⟨y1, y2, y3, y4, y5, H2⟩ := cr_parts Y k
        rw [H1.out] at d1
        rw [H2.out] at d2
        obtain ⟨a1, a2, a3, a4, a5⟩ := d1
        obtain ⟨b1, b2, b3, b4, b5⟩ := d2
        have i1 : (0 : Int) ≤ (k : Int) := by omega
        have i2 : (k : Int) < (n : Int) := by omega
        obtain ⟨r, hr⟩ : ∃ r, r = !decide ((⟨x1, x2, x3, x4, x5⟩ : Kn.Cr) = ⟨y1, y2, y3, y4, y5⟩) := ⟨_, rfl⟩
        have hn := fun w => ne42v w x1 x2 x3 x4 x5 y1 y2 y3 y4 y5 r hr
        have HR := Lib.hid hr
        clear hr
        cases r
        · go_wp2
          go_quiet (fail)
          go_wp2
          go_roundw
          case rel => exact ⟨k + 1, by omega, by go_num, Lib.hid (HF.out.drewN _), Lib.hid fun j hj => by
            by_cases c : j = k
            · subst c
              have := HR.out
              rw [eq_comm, Bool.not_eq_false', decide_eq_true_eq] at this
              rw [H1.out, H2.out, this]
            · exact HE.out j (by omega)⟩
          case measure => simp [intOf]; omega
        · go_wp2
          go_quiet (fail)
          go_wp2
          go_ret
          exact ⟨ret_bool (by
            have := HR.out
            rw [eq_comm, Bool.not_eq_true', decide_eq_false_iff_not] at this
            rw [eq_comm, decide_eq_false_iff_not]
            exact cr_ne (k := k) (by rw [H1.out, H2.out]; exact this)), HF.out.drewN _⟩
      · obtain rfl : k = n := by omega
        go_wp2
        go_ret
        exact ⟨ret_bool (by rw [eq_comm, decide_eq_true_iff]; exact cr_ext (by rw [← HN.out, ← HM.out]) fun j hj => HE.out j (by rw [HN.out]; exact hj)), HF.out⟩
  · have h' : ¬ (n : Int) = (m : Int) := by omega
    go_enter Try.func27, Try.ntmps27
    go_wp2
    go_ret
    exact ⟨ret_bool (by rw [eq_comm, decide_eq_false_iff_not]; intro z; apply h; rw [HN.out, HM.out, z]), Fr.refl _ _⟩
end Go.Proofs.Ytgjmjbgicfkojaa
