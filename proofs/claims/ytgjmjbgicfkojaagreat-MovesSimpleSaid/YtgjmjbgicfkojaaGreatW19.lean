/- Walks: slices.Compare, cmp.Or, Form$1. -/
import Derived.Test.YtgjmjbgicfkojaaGreatW18
import Derived.Test.YtgjmjbgicfkojaaGreatW13
namespace Go.Proofs.YtgjmjbgicfkojaaGreat
open Go.RowKit

theorem cmpI_lib (x y : Int) : Lib.compareInt x y = Kn.cmpI x y := by unfold Lib.compareInt Kn.cmpI; rfl
theorem cmpL_step {l m : List Int} {i : Nat} (h : i < l.length) (k : i < m.length) : Kn.cmpL (l.drop i) (m.drop i) = if Kn.cmpI l[i] m[i] = 0 then Kn.cmpL (l.drop (i + 1)) (m.drop (i + 1)) else Kn.cmpI l[i] m[i] := by
  rw [List.drop_eq_getElem_cons h, List.drop_eq_getElem_cons k, Kn.cmpL]
theorem cmpL_more {l m : List Int} {i : Nat} (h : i < l.length) (k : m.length ≤ i) : Kn.cmpL (l.drop i) (m.drop i) = 1 := by
  rw [List.drop_eq_getElem_cons h, List.drop_eq_nil_of_le k, Kn.cmpL]
theorem cmpL_done {l m : List Int} {i : Nat} (h : l.length ≤ i) : Kn.cmpL (l.drop i) (m.drop i) = if i < m.length then -1 else 0 := by
  rw [List.drop_eq_nil_of_le h]
  split
  · rename_i k
    rw [List.drop_eq_getElem_cons k, Kn.cmpL]
  · rename_i k
    rw [List.drop_eq_nil_of_le (by omega), Kn.cmpL]
theorem own_int {base n : Nat} {w : World} {v : Value} {l : List Int} (h : w.ownsRow base 3 1 v n (ints l)) (hn : n = l.length) : ∃ a c, v = .slice a n c ∧ ∀ i (hi : i < l.length), ∃ g, a = some ⟨g, 0, none⟩ ∧ w.cell? ⟨g, i, none⟩ = some (.int .i64 l[i]) := by
  obtain ⟨a, c, rfl, _, h2⟩ := own_shape h
  refine ⟨a, c, rfl, fun i hi => ?_⟩
  obtain ⟨g, ha, _, hc⟩ := h2 (by omega)
  refine ⟨g, ha, ?_⟩
  have := hc i (by rw [ints_length]; exact hi)
  simpa [ints] using this

set_option maxRecDepth 100000 in
set_option maxHeartbeats 4000000 in
theorem compare_any (v1 v2 : Value) (b1 b2 n1 n2 : Nat) (l m : List Int) (w : World) (h1 : w.ownsRow b1 3 1 v1 n1 (ints l)) (h2 : w.ownsRow b2 3 1 v2 n2 (ints m)) (e1 : n1 = l.length) (e2 : n2 = m.length) (hl : n1 ≤ 1000) (hm : n2 ≤ 1000) :
    Calls Tryz.prog 41 #[v1, v2] w (fun e w' => e = .returned (.int .i64 (Kn.cmpL l m)) ∧ w' = w) := by
  obtain ⟨a1, c1, rfl, H1⟩ := own_int h1 e1
  obtain ⟨a2, c2, rfl, H2⟩ := own_int h2 e2
  have H1 := Lib.hid H1
  have H2 := Lib.hid H2
  have E1 := Lib.hid e1
  have E2 := Lib.hid e2
  clear h1 h2 e1 e2
  go_enter Tryz.func41, Tryz.ntmps41
  go_wp2
  go_loopw [11] (fun i wr => ∃ q : Nat, wr = w ∧ q ≤ n1 ∧ q ≤ n2 ∧ i = .int .i64 q ∧ Hid (Kn.cmpL l m = Kn.cmpL (l.drop q) (m.drop q))) (fun i _ => n1 - (intOf i).toNat)
  case atStart => exact ⟨0, rfl, by omega, by omega, rfl, Lib.hid rfl⟩
  case round =>
    obtain ⟨q, rfl, hq1, hq2, rfl, HQ⟩ := hrel
    by_cases hq : q < n1
    · obtain ⟨g, rfl, hc⟩ := H1.out q (by have := E1.out; omega)
      obtain ⟨x, HX⟩ : ∃ x, Hid (x = l[q]'(by have := E1.out; omega)) := ⟨_, Lib.hid rfl⟩
      rw [← HX.out] at hc
      have i1 : (0 : Int) ≤ (q : Int) := by omega
      have i2 : (q : Int) < (n1 : Int) := by omega
      by_cases hk : q < n2
      · obtain ⟨g2, rfl, hd⟩ := H2.out q (by have := E2.out; omega)
        obtain ⟨y, HY⟩ : ∃ y, Hid (y = m[q]'(by have := E2.out; omega)) := ⟨_, Lib.hid rfl⟩
        rw [← HY.out] at hd
        have i4 : (q : Int) < (n2 : Int) := by omega
        obtain ⟨z, HZ⟩ : ∃ z, Hid (z = Kn.cmpI x y) := ⟨_, Lib.hid rfl⟩
        have HS := Lib.hid (cmpL_step (l := l) (m := m) (i := q) (by have := E1.out; omega) (by have := E2.out; omega))
        rw [← HX.out, ← HY.out, ← HZ.out, ← HQ.out] at HS
        by_cases hz : z = 0
        · have HS2 := Lib.hid (show Kn.cmpL l m = Kn.cmpL (l.drop (q + 1)) (m.drop (q + 1)) by have := HS.out; rwa [if_pos hz] at this)
          clear HS
          subst hz
          go_wp2_with (go_at_call 72; refine (Tryz.cmp_Compare_int x y _).mono ?_; rintro e w5 ⟨rfl, rfl⟩; rw [cmpI_lib, ← HZ.out])
          go_roundw
          case rel => exact ⟨q + 1, by trivial, by omega, by omega, by go_num, HS2⟩
          case measure => simp [intOf]; omega
        · go_wp2_with (go_at_call 72; refine (Tryz.cmp_Compare_int x y _).mono ?_; rintro e w5 ⟨rfl, rfl⟩; rw [cmpI_lib, ← HZ.out])
          go_ret
          refine ⟨?_, rfl⟩
          have := HS.out
          rw [if_neg hz] at this
          rw [this]
          rfl
      · obtain rfl : q = n2 := by omega
        go_wp2
        go_ret
        refine ⟨?_, rfl⟩
        rw [HQ.out, cmpL_more (by have := E1.out; omega) (by have := E2.out; omega)]
        rfl
    · obtain rfl : q = n1 := by omega
      have HD := Lib.hid (cmpL_done (l := l) (m := m) (i := q) (by have := E1.out; omega))
      rw [← HQ.out, ← E2.out] at HD
      by_cases hk : q < n2
      · go_wp2
        go_ret
        refine ⟨?_, rfl⟩
        rw [HD.out, if_pos hk]
        rfl
      · obtain rfl : q = n2 := by omega
        go_wp2
        go_ret
        refine ⟨?_, rfl⟩
        rw [HD.out, if_neg hk]
        rfl

/- the first that is not nought -/
theorem or_any (g c : Nat) (x y : Int) (w : World) (h0 : w.cell? ⟨g, 0, none⟩ = some (.int .i64 x)) (h1 : w.cell? ⟨g, 1, none⟩ = some (.int .i64 y)) :
    Calls Tryz.prog 44 #[.slice (some ⟨g, 0, none⟩) 2 c] w (fun e w' => e = .returned (.int .i64 (if x = 0 then y else x)) ∧ w' = w) := by
  go_enter Tryz.func44, Tryz.ntmps44
  go_wp2
  go_loopw [8] (fun i wr => ∃ q : Nat, wr = w ∧ q ≤ 2 ∧ i = .int .i64 q ∧ Hid ((0 < q → x = 0) ∧ (1 < q → y = 0))) (fun i _ => 2 - (intOf i).toNat)
  case atStart => exact ⟨0, rfl, by omega, rfl, Lib.hid ⟨by omega, by omega⟩⟩
  case round =>
    obtain ⟨q, rfl, hq, rfl, HQ⟩ := hrel
    rcases (show q = 0 ∨ q = 1 ∨ q = 2 by omega) with rfl | rfl | rfl
    · by_cases hx : x = 0
      · subst hx
        go_wp2
        go_roundw
        case rel => exact ⟨1, by trivial, by omega, by first | rfl | trivial, Lib.hid (by constructor <;> intro h <;> first | trivial | omega)⟩
        case measure => simp [intOf]
      · go_wp2
        go_ret
        exact ⟨by first | rfl | (rw [if_neg hx]; rfl), rfl⟩
    · have hx := HQ.out.1 (by omega)
      by_cases hy : y = 0
      · subst hy
        go_wp2
        go_roundw
        case rel => exact ⟨2, by trivial, by omega, by first | rfl | trivial, Lib.hid (by constructor <;> intro h <;> first | trivial | omega)⟩
        case measure => simp [intOf]
      · go_wp2
        go_ret
        exact ⟨by first | rfl | (rw [if_pos hx]; rfl), rfl⟩
    · have hx := HQ.out.1 (by omega)
      have hy := HQ.out.2 (by omega)
      go_wp2
      go_ret
      exact ⟨by first | rfl | (rw [if_pos hx, hy]; rfl), rfl⟩
end Go.Proofs.YtgjmjbgicfkojaaGreat
