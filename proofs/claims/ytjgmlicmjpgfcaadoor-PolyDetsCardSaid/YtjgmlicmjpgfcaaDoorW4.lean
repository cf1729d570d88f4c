/- Walks: At. -/
import Derived.Test.YtjgmlicmjpgfcaaDoorW3
namespace Go.Proofs.YtjgmlicmjpgfcaaDoor
open Go.RowKit

/- the test of At -/
def vf (t : Int) (e : Int) : Int := if t < 0 ∧ e % 2 ≠ 0 then -1 else 1
def val (t : Int) (l : List Pl.T) : Int := Pl.tot l (vf t)
def valk (t : Int) (l : List Pl.T) (k : Nat) : Int := Pl.tot (l.take k) (vf t)
theorem valk_succ (t : Int) (l : List Pl.T) {k : Nat} (hk : k < l.length) : valk t l (k + 1) = valk t l k + (l.getD k (0, 0)).2 * vf t (l.getD k (0, 0)).1 := by
  unfold valk
  rw [List.take_succ_eq_append_getElem hk, Pl.tot_app, Pl.tot_cons, Pl.tot_nil, List.getD_eq_getElem?_getD, List.getElem?_eq_getElem hk]
  simp
theorem valk_end (t : Int) (l : List Pl.T) : valk t l l.length = val t l := by unfold valk val; rw [List.take_length]
theorem vf_one (t e : Int) (h : ¬ (t < 0 ∧ e % 2 ≠ 0)) (c : Int) : c * vf t e = c := by unfold vf; rw [if_neg h]; omega
theorem vf_neg (t e : Int) (h : t < 0 ∧ e % 2 ≠ 0) (c : Int) : c * vf t e = -c := by unfold vf; rw [if_pos h]; omega
theorem valk_le {t : Int} {l : List Pl.T} (hm : Pl.May l) : ∀ k, k ≤ l.length → -((k : Int) * 1000000) ≤ valk t l k ∧ valk t l k ≤ (k : Int) * 1000000
  | 0, _ => by simp [valk, Pl.tot_nil]
  | k + 1, h => by
    have ih := valk_le (t := t) hm k (by omega)
    have hb := may_at hm (k := k) (by omega)
    rw [valk_succ t l (by omega)]
    by_cases c : t < 0 ∧ (l.getD k (0, 0)).1 % 2 ≠ 0
    · rw [vf_neg _ _ c]; omega
    · rw [vf_one _ _ c]; omega

theorem ret_num {a b c : Int} (h : a = b) : Ending.returned (.tuple #[.int .i64 a, .int .i64 c]) = .returned (.tuple #[.int .i64 b, .int .i64 c]) := by rw [h]
theorem odd_no {e : Int} (h : e % 2 = 0) : (e.tmod 2 != 0) = false := by
  have : e.tmod 2 = 0 := Int.tmod_eq_zero_of_dvd (Int.dvd_of_emod_eq_zero h)
  rw [this]; rfl
theorem odd_yes {e : Int} (h : ¬ e % 2 = 0) : (e.tmod 2 != 0) = true := by
  rw [bne_iff_ne]
  intro x
  exact h (Int.emod_eq_zero_of_dvd (Int.dvd_of_tmod_eq_zero x))

set_option maxHeartbeats 1000000 in
theorem at_any (v : Value) (t : Int) (l : List Pl.T) (w : World) (hx : Ts w v l) (hm : Pl.May l) (ht : t = 1 ∨ t = -1) :
    Calls Tryd.prog 9 #[v, .int .i64 t] w fun e w' => e = .returned (.tuple #[.int .i64 (val t l), .int .i64 0]) ∧ New w w' := by
  have CC := Lib.hid (may_any v l w hx hm)
  obtain ⟨a, c, rfl, hx⟩ := hx
  obtain ⟨n, hn⟩ : ∃ n, n = l.length := ⟨_, rfl⟩
  rw [← hn] at CC ⊢
  have hn64 : n ≤ 64 := by rw [hn]; exact hm.1
  have HN := Lib.hid hn
  have HX := Lib.hid hx
  have HM := Lib.hid hm
  have HT := Lib.hid ht
  clear hn hx hm
  have t1 : ¬ (t ≠ 1 ∧ t ≠ -1) := by omega
  have hneg : (t < 0 ∧ t = -1) ∨ (¬ t < 0 ∧ t = 1) := by omega
  clear ht t1
  rcases hneg with ⟨hneg, rfl⟩ | ⟨hneg, rfl⟩
  all_goals
    go_enter Tryd.func9, Tryd.ntmps9
    go_wp2_with fail
    refine CC.out.mono ?_
    rintro e w1 ⟨rfl, hn1⟩
    have HN1 := Lib.hid hn1
    have HX1 := Lib.hid (New.terms hn1 HX.out)
    clear hn1
    go_wp2
    go_loopw [6, 20] (fun s i wr => ∃ (k : Nat) (z : Int), k ≤ n ∧ i = .int .i64 k ∧ s = .int .i64 z ∧ -((k : Int) * 1000000) ≤ z ∧ z ≤ (k : Int) * 1000000 ∧ Hid (New w1 wr) ∧ Hid (z = valk _ l k)) (fun _ i _ => n - (intOf i).toNat)
    case atStart => exact ⟨0, 0, by omega, rfl, rfl, by omega, by omega, Lib.hid (Fr.refl _ _), Lib.hid rfl⟩
  · case round =>
      obtain ⟨k, z, hk, rfl, rfl, z1, z2, HF, HZ⟩ := hrel
      by_cases hlt : k < n
      · obtain ⟨b, o, rfl, d1, d2⟩ := (New.terms HF.out HX1.out).at (k := k) (by have := HN.out; omega)
        have hb := may_at HM.out (k := k) (by rw [← HN.out]; exact hlt)
        have hs := valk_succ (-1) l (k := k) (by rw [← HN.out]; exact hlt)
        obtain ⟨e1, H1⟩ : ∃ e, Hid (e = (l.getD k (0, 0)).1) := ⟨_, Lib.hid rfl⟩
        obtain ⟨e2, H2⟩ : ∃ e, Hid (e = (l.getD k (0, 0)).2) := ⟨_, Lib.hid rfl⟩
        rw [← H1.out] at d1 hb hs
        rw [← H2.out] at d2 hb hs
        obtain ⟨⟨b1, b2⟩, ⟨b3, b4⟩, b5⟩ := hb
        rw [← HZ.out] at hs
        have HS := Lib.hid hs
        clear b5 hs
        by_cases hp : e1 % 2 = 0
        · have hp' := odd_no hp
          go_wp2
          go_roundw
          case rel => exact ⟨k + 1, z + e2, by omega, by go_num, rfl, by omega, by omega, Lib.hid (Fr.alloc HF.out _), Lib.hid (by rw [HS.out, vf_one _ _ (by omega)])⟩
          case measure => simp [intOf]; omega
        · have hp' := odd_yes hp
          go_wp2
          go_roundw
          case rel => exact ⟨k + 1, z - e2, by omega, by go_num, rfl, by omega, by omega, Lib.hid (Fr.alloc HF.out _), Lib.hid (by rw [HS.out, vf_neg _ _ (by omega)]; omega)⟩
          case measure => simp [intOf]; omega
      · obtain rfl : k = n := by omega
        go_wp2
        go_ret2
        exact ⟨ret_num (by rw [HZ.out, HN.out, valk_end]), HN1.out.trans HF.out⟩
  · case round =>
      obtain ⟨k, z, hk, rfl, rfl, z1, z2, HF, HZ⟩ := hrel
      by_cases hlt : k < n
      · obtain ⟨b, o, rfl, d1, d2⟩ := (New.terms HF.out HX1.out).at (k := k) (by have := HN.out; omega)
        have hb := may_at HM.out (k := k) (by rw [← HN.out]; exact hlt)
        have hs := valk_succ 1 l (k := k) (by rw [← HN.out]; exact hlt)
        obtain ⟨e1, H1⟩ : ∃ e, Hid (e = (l.getD k (0, 0)).1) := ⟨_, Lib.hid rfl⟩
        obtain ⟨e2, H2⟩ : ∃ e, Hid (e = (l.getD k (0, 0)).2) := ⟨_, Lib.hid rfl⟩
        rw [← H1.out] at d1 hb hs
        rw [← H2.out] at d2 hb hs
        obtain ⟨⟨b1, b2⟩, ⟨b3, b4⟩, b5⟩ := hb
        rw [← HZ.out] at hs
        have HS := Lib.hid hs
        clear b5 hs
        go_wp2
        go_roundw
        case rel => exact ⟨k + 1, z + e2, by omega, by go_num, rfl, by omega, by omega, Lib.hid (Fr.alloc HF.out _), Lib.hid (by rw [HS.out, vf_one _ _ (by omega)])⟩
        case measure => simp [intOf]; omega
      · obtain rfl : k = n := by omega
        go_wp2
        go_ret2
        exact ⟨ret_num (by rw [HZ.out, HN.out, valk_end]), HN1.out.trans HF.out⟩
end Go.Proofs.YtjgmlicmjpgfcaaDoor
