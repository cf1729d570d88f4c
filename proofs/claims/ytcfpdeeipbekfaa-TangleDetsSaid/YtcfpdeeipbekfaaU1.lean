/- Walks: check, Fraction. -/
import Derived.Laws.OwnMore
import Derived.Test.YtcfpdeeipbekfaaU0
import Derived.Test.YtcfpdeeipbekfaaJX
import Derived.Test.YtcfpdeeipbekfaaMAlld
namespace Go.Proofs.Ytcfpdeeipbekfaa
open Go.RowKit

def ints (xs : List Int) : List Value := xs.map (Value.int .i64)
theorem IntsAt.of_owns {w : World} {base : Nat} {v : Value} {xs : List Int} (h : w.ownsRow base 3 1 v xs.length (ints xs)) : ∃ a c, v = .slice a xs.length c ∧ IntsAt w a xs ∧ (∀ b o, a = some ⟨b, o, none⟩ → base ≤ b) := by
  rcases h.2 with ⟨rfl, h0⟩ | ⟨g, cap, cur, rfl, hb, hg, hn, hc, hs, ht⟩
  · rw [h0]
    exact ⟨none, 0, rfl, .inl (List.length_eq_zero_iff.1 h0), fun _ _ e => by cases e⟩
  · refine ⟨_, cap, rfl, .inr ⟨g, 0, rfl, fun i hi => ?_⟩, fun b o e => by cases e; exact hb⟩
    have := World.ownsRow.cells h (g := g) rfl i (.int .i64 (xs.getD i 0)) (by rw [ints, List.getElem?_map, List.getElem?_eq_getElem hi]; simp [List.getD_eq_getElem?_getD, List.getElem?_eq_getElem hi])
    rwa [addr_add] at this
def Own (base : Nat) (w : World) (v : Value) (xs : List Int) : Prop := w.ownsRow base 3 1 v xs.length (ints xs)

theorem one_ints (y : Int) : ∀ u ∈ [Value.int .i64 y], u.oneCell' = true := by simp [Value.oneCell']

theorem Own.snoc {base : Nat} {w : World} {v : Value} {xs : List Int} {y : Int} (h : w.ownsRow base 3 1 v (xs.length + 1) (ints xs ++ [.int .i64 y])) : Own base w v (xs ++ [y]) := by
  unfold Own
  have e1 : (xs ++ [y]).length = xs.length + 1 := by simp
  have e2 : ints (xs ++ [y]) = ints xs ++ [.int .i64 y] := by simp [ints]
  rw [e1, e2]; exact h

set_option maxHeartbeats 1000000 in
theorem checkI_any (a : Option Addr) (n c : Nat) (l : List Int) (w : World) (hn : n = l.length) (hx : IntsAt w a l) (hl : n % 2 = 1) (hl' : n ≤ 1000) (hs : Kn.absL l ≤ 16) :
    Calls Try.prog 12 #[.slice a n c] w fun e w' => e = .returned (.int .i64 0) ∧ w' = w := by
  have H := Lib.hid hx
  have HN := Lib.hid hn
  have HS := Lib.hid hs
  clear hx hn hs
  go_enter Try.func12, Try.ntmps12
  go_wp2
  go_loopw [3, 8] (fun s i wr => ∃ k : Nat, k ≤ n ∧ i = .int .i64 k ∧ s = .int .i64 (Kn.absL (l.take k) : Nat) ∧ Hid (wr = w)) (fun _ i _ => n - (intOf i).toNat)
  case atStart => exact ⟨0, by omega, rfl, by simp [Kn.absL], Lib.hid rfl⟩
  case round =>
    obtain ⟨k, hk, rfl, rfl, HW⟩ := hrel
    by_cases hlt : k < n
    · have hkl : k < l.length := by have := HN.out; omega
      obtain ⟨b, o, e, hc⟩ := H.out.at hkl
      subst e
      have h1 := Kn.absL_take hkl
      have h2 := Kn.absL_take_le l (k + 1)
      have h4 := HS.out
      obtain ⟨x, HX⟩ : ∃ x, Hid (x = l.getD k 0) := ⟨_, Lib.hid rfl⟩
      obtain ⟨y, HY⟩ : ∃ y, Hid (y = Kn.absL (l.take k)) := ⟨_, Lib.hid rfl⟩
      rw [← HX.out] at hc h1
      rw [← HY.out] at h1 ⊢
      have H1 := Lib.hid h1
      have x1 : x ≤ 16 := by omega
      have x0 : -16 ≤ x := by omega
      have xn : ¬ x < -16 := by omega
      have xm : ¬ (16 : Int) < x := by omega
      have y1 : (y : Int) ≤ 16 := by omega
      clear h1 h2 h4
      have i1 : (0 : Int) ≤ (k : Int) := by omega
      have i2 : (k : Int) < (n : Int) := by omega
      rw [← HW.out] at hc
      go_wp2
      go_roundw
      case rel => exact ⟨k + 1, by omega, by go_num, by rw [H1.out]; go_num, HW⟩
      case measure => simp [intOf]; omega
    · obtain rfl : n = k := by omega
      have HE : Hid (l.take n = l) := Lib.hid (List.take_of_length_le (by have := HN.out; omega))
      rw [HE.out]
      have h16 : ¬ (16 : Int) < (Kn.absL l : Nat) := by have := HS.out; omega
      have hm2 : (n : Int).tmod 2 = 1 := by rw [Int.tmod_eq_emod_of_nonneg (by omega)]; omega
      go_wp2
      go_ret
      exact ⟨rfl, HW.out⟩
set_option maxRecDepth 100000 in
set_option maxHeartbeats 2000000 in
theorem fraction_any (a : Option Addr) (n c : Nat) (l : List Int) (w : World) (hn : n = l.length) (hx : IntsAt w a l) (hl : n % 2 = 1) (hl' : n ≤ 1000) (hs : Kn.absL l ≤ 16) :
    Calls Try.prog 4 #[.slice a n c] w fun e w' => e = .returned (.tuple #[.int .i64 (Kn.frI l (1, 0)).1, .int .i64 (Kn.frI l (1, 0)).2, .int .i64 0]) ∧ New w w' := by
  have H := Lib.hid hx
  have HN := Lib.hid hn
  have HS := Lib.hid hs
  have CK := Lib.hid (checkI_any a n c l w hn hx hl hl' hs)
  clear hx hn hs
  go_enter Try.func4, Try.ntmps4
  go_wp2_with (go_at_call 12; refine CK.out.mono ?_; rintro e w4 ⟨rfl, hE⟩; obtain rfl := hE)
  go_loopw [2, 3, 15] (fun p q i wr => ∃ (k : Nat) (x y : Int), k ≤ n ∧ i = .int .i64 k ∧ p = .int .i64 x ∧ q = .int .i64 y ∧ Hid ((x, y) = Kn.frI (l.take k) (1, 0)) ∧ Hid (New w4 wr)) (fun _ _ i _ => n - (intOf i).toNat)
  case atStart => exact ⟨0, 1, 0, by omega, rfl, rfl, rfl, Lib.hid rfl, Lib.hid (Fr.refl _ _)⟩
  case round =>
    obtain ⟨k, x, y, hk, rfl, rfl, rfl, HR, HF⟩ := hrel
    by_cases hlt : k < n
    · have hkl : k < l.length := by have := HN.out; omega
      obtain ⟨b, o, e, hc⟩ := (New.ints HF.out H.out).at hkl
      subst e
      obtain ⟨z, HZ⟩ : ∃ z, Hid (z = l.getD k 0) := ⟨_, Lib.hid rfl⟩
      have z1 : z.natAbs ≤ 16 := by rw [HZ.out]; exact Nat.le_trans (Kn.absL_get hkl) HS.out
      have zl : -16 ≤ z := by omega
      have zu : z ≤ 16 := by omega
      obtain ⟨f1, f2⟩ := Kn.fr_bd HS.out k
      rw [← HR.out] at f1 f2
      obtain ⟨⟨b1, b2⟩, b3, b4⟩ := f1
      obtain ⟨⟨P, Q⟩, HPQ⟩ : ∃ z, Hid (z = Kn.lowI y x) := ⟨_, Lib.hid rfl⟩
      simp only at f2 b1 b2 b3 b4
      rw [← HPQ.out] at f2
      obtain ⟨⟨p1, p2⟩, q1, q2⟩ := f2
      simp only at p1 p2 q1 q2
      obtain ⟨m, HM⟩ : ∃ m, Hid (m = z * Q) := ⟨_, Lib.hid rfl⟩
      obtain ⟨m1, m2⟩ := Kn.mul_bd z1 ⟨q1, q2⟩
      rw [← HM.out] at m1 m2
      have em := HM.out.symm
      rw [← HZ.out] at hc
      have i1 : (0 : Int) ≤ (k : Int) := by omega
      have i2 : (k : Int) < (n : Int) := by omega
      have step := Kn.frI_take hkl (1, 0)
      rw [← HR.out, ← HZ.out] at step
      unfold Kn.frS at step
      simp only at step
      rw [← HPQ.out] at step
      have ST := Lib.hid step
      clear step
      by_cases hq : Q = 0
      · subst hq
        go_wp2_with (go_at_call 13; refine (lowest_any y x _ (by omega) (by omega) (by omega) (by omega)).mono ?_; rintro e w5 ⟨rfl, hE⟩; rw [← HPQ.out]; have HE := Lib.hid hE; clear hE)
        go_roundw
        case rel => exact ⟨k + 1, P, 0, by omega, by go_num, rfl, rfl, Lib.hid (by rw [ST.out]; simp), Lib.hid (HF.out.trans HE.out)⟩
        case measure => simp [intOf]; omega
      · obtain ⟨s, HSM⟩ : ∃ s, Hid (s = P + m) := ⟨_, Lib.hid rfl⟩
        obtain ⟨⟨P2, Q2⟩, HP2⟩ : ∃ z, Hid (z = Kn.lowI s Q) := ⟨_, Lib.hid rfl⟩
        have s1 : -1200000 ≤ s := by have := HSM.out; omega
        have s2 : s ≤ 1200000 := by have := HSM.out; omega
        have es := HSM.out.symm
        go_wp2_with fail
        refine (lowest_any y x _ (by omega) (by omega) (by omega) (by omega)).mono ?_
        rintro e w5 ⟨rfl, hE⟩
        rw [← HPQ.out]
        have HE := Lib.hid hE
        clear hE
        go_wp2_with fail
        refine (lowest_any s Q _ (by omega) (by omega) (by omega) (by omega)).mono ?_
        rintro e w6 ⟨rfl, hE⟩
        rw [← HP2.out]
        have HE2 := Lib.hid hE
        clear hE
        go_wp2
        go_roundw
        case rel => exact ⟨k + 1, P2, Q2, by omega, by go_num, rfl, rfl, Lib.hid (by rw [ST.out, if_neg hq, HP2.out, HSM.out, HM.out]), Lib.hid ((HF.out.trans HE.out).trans HE2.out)⟩
        case measure => simp [intOf]; omega
    · obtain rfl : n = k := by omega
      have HE : Hid (l.take n = l) := Lib.hid (List.take_of_length_le (by have := HN.out; omega))
      have HR2 : Hid ((x, y) = Kn.frI l (1, 0)) := Lib.hid (by rw [← HE.out]; rw [HE.out]; have := HR.out; rw [HE.out] at this; exact this)
      go_wp2
      refine bodyPost_ret (v := .tuple #[.int .i64 x, .int .i64 y, .int .i64 0]) (by simp [results, Try.results4, go_sem]) rfl ⟨by rw [← HR2.out], HF.out⟩
end Go.Proofs.Ytcfpdeeipbekfaa
