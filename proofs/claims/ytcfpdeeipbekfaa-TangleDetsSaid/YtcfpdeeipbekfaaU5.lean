/- Walks: value. -/
import Derived.Test.YtcfpdeeipbekfaaT2
import Derived.Test.YtcfpdeeipbekfaaMAlld
namespace Go.Proofs.Ytcfpdeeipbekfaa
open Go.RowKit

set_option maxRecDepth 100000 in
set_option maxHeartbeats 1000000 in
theorem value_any (base : Nat) (v : Value) (l : List Nat) (p q : Nat) (w : World) (h : w.ownsRow base 3 1 v l.length (nums l)) (h1 : 1 ≤ l.length) (hl : l.length ≤ 1000) (hp : p ≤ 1000) (h2 : ∀ c ∈ l, 1 ≤ c) (hf : l.foldl Kn.cS (1, 0) = (p, q)) :
    Calls Try.prog 11 #[v, .int .i64 p, .int .i64 q] w fun e w' => e = .returned (.bool true) ∧ w' = w := by
  obtain ⟨n, hn⟩ : ∃ n, n = l.length := ⟨_, rfl⟩
  obtain ⟨a, c, rfl, _, _⟩ := own_shape h
  have H := Lib.hid h
  have HN := Lib.hid hn
  have HF := Lib.hid hf
  have H2 := Lib.hid h2
  have bd := fun k => Kn.cS_bd h2 (N := 1000) (by rw [hf]; exact hp) k
  have BD := Lib.hid bd
  rw [← hn] at h1 hl ⊢
  obtain ⟨g, c', e, hc, _⟩ := nums_cell h (i := 0) (by omega)
  rw [← hn] at e
  cases e
  have hb1 := bd 1
  have ht1 := Kn.cS_take (l := l) 0 (by omega) (1, 0)
  rw [ht1] at hb1
  obtain ⟨x, HX⟩ : ∃ x, Hid (x = l.getD 0 0) := ⟨_, Lib.hid rfl⟩
  rw [← HX.out] at hc hb1 ht1
  have hx : x ≤ 1000 := by
    have : x * 1 + 0 ≤ 1000 := hb1.1
    omega
  have HT1 : Hid ((l.take 1).foldl Kn.cS (1, 0) = (x, 1)) := Lib.hid (by rw [show (1 : Nat) = 0 + 1 from rfl, ht1]; show (x * 1 + 0, 1) = _; simp)
  clear h hn hf h2 bd hb1 ht1
  have j1 : (0 : Int) < (n : Int) := by omega
  go_enter Try.func11, Try.ntmps11
  go_wp2
  clear hc
  go_loopw [7, 8, 9] (fun sa sb i wr => ∃ (k y z : Nat), 1 ≤ k ∧ k ≤ n ∧ i = .int .i64 k ∧ sa = .int .i64 y ∧ sb = .int .i64 z ∧ Hid ((l.take k).foldl Kn.cS (1, 0) = (y, z)) ∧ Hid (wr = w)) (fun _ _ i _ => n - (intOf i).toNat)
  case atStart => exact ⟨1, x, 1, by omega, by omega, rfl, rfl, rfl, HT1, Lib.hid rfl⟩
  case round =>
    obtain ⟨k, y, z, hk1, hk, rfl, rfl, rfl, HT, HW⟩ := hrel
    by_cases hlt : k < n
    · have hkl : k < l.length := by have := HN.out; omega
      obtain ⟨g', c', e, hc, _⟩ := nums_cell H.out hkl
      rw [← HN.out] at e
      cases e
      have hb := BD.out k
      have hb' := BD.out (k + 1)
      have ht := Kn.cS_take (l := l) k hkl (1, 0)
      obtain ⟨u, HU⟩ : ∃ u, Hid (u = l.getD k 0) := ⟨_, Lib.hid rfl⟩
      rw [HT.out] at hb ht
      rw [← HU.out] at hc ht
      rw [ht] at hb'
      obtain ⟨s, HS⟩ : ∃ s, Hid (s = u * y) := ⟨_, Lib.hid rfl⟩
      have hb1 : s + z ≤ 1000 := by rw [HS.out]; exact hb'.1
      have y1 : y ≤ 1000 := hb.1
      have z1 : z ≤ 1000 := hb.2
      have es : (u : Int) * (y : Int) = (s : Int) := by rw [HS.out]; simp
      have HTT : Hid ((l.take (k + 1)).foldl Kn.cS (1, 0) = (s + z, y)) := Lib.hid (by rw [ht, HS.out]; rfl)
      clear hb hb' ht
      have i1 : (0 : Int) ≤ (k : Int) := by omega
      have i2 : (k : Int) < (n : Int) := by omega
      rw [← HW.out] at hc
      go_wp2
      go_roundw
      case rel => exact ⟨k + 1, s + z, y, by omega, by omega, by go_num, by first | rfl | go_num, rfl, HTT, HW⟩
      case measure => simp [intOf]; omega
    · obtain rfl : n = k := by omega
      have hT := HT.out
      rw [List.take_of_length_le (by have := HN.out; omega), HF.out] at hT
      obtain ⟨rfl, rfl⟩ := Prod.mk.inj hT
      go_wp2
      go_ret
      exact ⟨rfl, HW.out⟩
end Go.Proofs.Ytcfpdeeipbekfaa
