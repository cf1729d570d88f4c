/- Walks: Determinant. -/
import Derived.Test.YtcfpdeeipbekfaaQ10
import Derived.Test.YtcfpdeeipbekfaaMAlld
namespace Go.Proofs.Ytcfpdeeipbekfaa
open Go.RowKit

set_option maxRecDepth 100000 in
set_option maxHeartbeats 2000000 in
theorem determinant_any (a : Option Addr) (n c : Nat) (X : List Kn.Cr) (L : Nat) (w : World) (hx : CrsAt w a X) (hn : n = X.length) (lx : n ≤ 10) (hL1 : L ≤ 16) (hop : opC X (L : Int) = 0) :
    Calls Try.prog 8 #[.agg #[.slice a n c, .int .i64 L]] w fun e w' => New w w' ∧ ∃ m, Kn.AlexIs X L m ∧ e = .returned (.tuple #[.int .i64 (max (Kn.dS m) (-Kn.dS m)), .int .i64 0]) := by
  have HN := Lib.hid hn
  have HX := Lib.hid hx
  have HOP := Lib.hid hop
  clear hx hn hop
  go_enter Try.func8, Try.ntmps8
  go_wp2_with fail
  refine (alexander_any a n c X L _ (New.crs ((Fr.refl _ _).alloc _) HX.out) HN.out lx hL1 HOP.out).mono ?_
  rintro e w4 ⟨hF, v, m, rfl, hT, hz, hA⟩
  have HF : Hid (New w w4) := Lib.hid (((Fr.refl _ _).alloc _).trans hF)
  obtain ⟨ta, tc, rfl, hT⟩ := hT
  obtain ⟨N, hN⟩ : ∃ N, N = m.length := ⟨_, rfl⟩
  have h410 : Pl.size m ≤ 1048576 := Nat.le_trans hz (Nat.le_trans (Nat.pow_le_pow_right (by omega) (show X.length ≤ 10 by have := HN.out; omega)) (by decide))
  have hlen : m.length ≤ 1048576 := Nat.le_trans (form_size hA.1.1) h410
  rw [← hN] at hlen ⊢
  have HT := Lib.hid hT
  have HNN := Lib.hid hN
  have HA := Lib.hid hA
  have HZ := Lib.hid h410
  have HLOW := Lib.hid hA.1.low
  clear hF hT hz hA hN h410
  go_wp2_with fail
  go_loopw [6, 19] (fun s i wr => ∃ k : Nat, k ≤ N ∧ i = .int .i64 k ∧ s = .int .i64 (Kn.dS (m.take k)) ∧ Hid (New w4 wr)) (fun _ i _ => N - (intOf i).toNat)
  case atStart => exact ⟨0, by omega, rfl, rfl, Lib.hid (Fr.refl _ _)⟩
  case round =>
    obtain ⟨k, hk, rfl, rfl, HW⟩ := hrel
    have hlow : ∀ j, ∀ u ∈ m.take j, 0 ≤ u.1 := fun j u hu => HLOW.out u (List.mem_of_mem_take hu)
    have b1 := Nat.le_trans (Kn.dS_bd (hlow k)) (Nat.le_trans (Kn.size_take_le m k) HZ.out)
    by_cases hlt : k < N
    · have hkl : k < m.length := by have := HNN.out; omega
      obtain ⟨b, o, e, c1, c2⟩ := (HW.out.terms HT.out).at hkl
      subst e
      have h1 := Kn.dS_take hkl
      have b2 := Nat.le_trans (Kn.size_get hkl) HZ.out
      have h0 : 0 ≤ (m.getD k (0, 0)).1 := HLOW.out _ (by rw [List.getD_eq_getElem?_getD, List.getElem?_eq_getElem hkl]; exact List.getElem_mem hkl)
      obtain ⟨d1, d2⟩ := Kn.dT_bd _ h0
      obtain ⟨y, HY⟩ : ∃ y, Hid (y = Kn.dS (m.take k)) := ⟨_, Lib.hid rfl⟩
      obtain ⟨q, HQ⟩ : ∃ q, Hid (q = Kn.dT (m.getD k (0, 0))) := ⟨_, Lib.hid rfl⟩
      obtain ⟨ee, HEE⟩ : ∃ z, Hid (z = (m.getD k (0, 0)).1) := ⟨_, Lib.hid rfl⟩
      obtain ⟨x, HYtcfpdeeipbekfaa⟩ : ∃ z, Hid (z = (m.getD k (0, 0)).2) := ⟨_, Lib.hid rfl⟩
      rw [← HEE.out] at c1 d2 h0
      rw [← HYtcfpdeeipbekfaa.out] at c2 d2 b2
      rw [← HQ.out] at h1 d2
      rw [← HY.out] at h1 b1 ⊢
      have H1 := Lib.hid h1
      have y1 : -1048576 ≤ y := by omega
      have y2 : y ≤ 1048576 := by omega
      have x1 : -1048576 ≤ x := by omega
      have x2 : x ≤ 1048576 := by omega
      have i1 : (0 : Int) ≤ (k : Int) := by omega
      have i2 : (k : Int) < (N : Int) := by omega
      clear h1 b1 b2 d1 hlow
      rcases d2 with ⟨e1, e2⟩ | ⟨e1, e2⟩
      · have HE2 := Lib.hid e2
        clear e2
        go_wp2
        go_roundw
        case rel => exact ⟨k + 1, by omega, by go_num, by rw [H1.out, HE2.out]; try go_num, Lib.hid (HW.out.alloc _)⟩
        case measure => simp [intOf]; omega
      · have HE2 := Lib.hid e2
        clear e2
        go_wp2
        go_roundw
        case rel => exact ⟨k + 1, by omega, by go_num, by rw [H1.out, HE2.out]; try go_num, Lib.hid (HW.out.alloc _)⟩
        case measure => simp [intOf]; omega
    · obtain rfl : N = k := by omega
      have HE : Hid (m.take N = m) := Lib.hid (List.take_of_length_le (by have := HNN.out; omega))
      rw [HE.out] at b1 ⊢
      obtain ⟨y, HY⟩ : ∃ y, Hid (y = Kn.dS m) := ⟨_, Lib.hid rfl⟩
      rw [← HY.out] at b1 ⊢
      have y1 : -1048576 ≤ y := by omega
      have y2 : y ≤ 1048576 := by omega
      clear b1 hlow
      go_wp2
      go_ret2
      exact ⟨HF.out.trans HW.out, m, HA.out, by rw [← HY.out]; rfl⟩
end Go.Proofs.Ytcfpdeeipbekfaa
