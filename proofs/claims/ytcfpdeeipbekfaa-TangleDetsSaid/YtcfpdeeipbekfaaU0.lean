/- Walks: gcd, right, lowest. -/
import Derived.Test.YtcfpdeeipbekfaaT0
import Derived.Test.YtcfpdeeipbekfaaMAlld
namespace Go.Proofs.Ytcfpdeeipbekfaa
open Go.RowKit

theorem gcd_turn {c d q : Int} (hd : d ≠ 0) (hq : q = c.tmod d) : Int.gcd d q = Int.gcd c d ∧ q.natAbs < d.natAbs := by
  have h : q.natAbs = c.natAbs % d.natAbs := by rw [hq, Int.natAbs_tmod]
  constructor
  · show Nat.gcd d.natAbs q.natAbs = Nat.gcd c.natAbs d.natAbs
    rw [h, Nat.gcd_comm d.natAbs, Nat.gcd_comm c.natAbs, Nat.gcd_rec d.natAbs c.natAbs]
  · rw [h]; exact Nat.mod_lt _ (by omega)
set_option maxHeartbeats 1000000 in
theorem gcdI_any (a b : Int) (w : World) (a1 : -1000000000000 ≤ a) (a2 : a ≤ 1000000000000) (b1 : -1000000000000 ≤ b) (b2 : b ≤ 1000000000000) :
    Calls Try.prog 24 #[.int .i64 a, .int .i64 b] w fun e w' => e = .returned (.int .i64 (Int.gcd a b : Nat)) ∧ New w w' := by
  obtain ⟨g, HG⟩ : ∃ g, Hid (g = Int.gcd a b) := ⟨_, Lib.hid rfl⟩
  rw [← HG.out]
  go_enter Try.func24, Try.ntmps24
  go_wp2
  go_loopw [0, 1] (fun x y wr => ∃ c d : Int, x = .int .i64 c ∧ y = .int .i64 d ∧ (-1000000000000 ≤ c ∧ c ≤ 1000000000000) ∧ (-1000000000000 ≤ d ∧ d ≤ 1000000000000) ∧ Hid (Int.gcd c d = g) ∧ Hid (New w wr)) (fun _ y _ => (intOf y).natAbs)
  case atStart => exact ⟨a, b, rfl, rfl, ⟨a1, a2⟩, ⟨b1, b2⟩, Lib.hid HG.out.symm, Lib.hid (Fr.refl _ _)⟩
  case round =>
    obtain ⟨c, d, rfl, rfl, ⟨c1, c2⟩, ⟨d1, d2⟩, HGC, HF⟩ := hrel
    by_cases hz : d = 0
    · subst hz
      go_wp2
      go_ret
      exact ⟨ret_int (by have := HGC.out; rw [Int.gcd_zero_right] at this; omega), HF.out⟩
    · obtain ⟨q, HQ⟩ : ∃ q, Hid (q = c.tmod d) := ⟨_, Lib.hid rfl⟩
      obtain ⟨t1, t2⟩ := gcd_turn hz HQ.out
      have T1 := Lib.hid t1
      have T2 := Lib.hid t2
      have q1 : -1000000000000 ≤ q := by omega
      have q2 : q ≤ 1000000000000 := by omega
      have e1 := HQ.out.symm
      clear t1 t2
      go_wp2_with fail
      go_region
      go_wp2
      go_roundw
      case rel => exact ⟨d, q, rfl, by first | rfl | rw [e1] | simp [e1], ⟨d1, d2⟩, ⟨q1, q2⟩, Lib.hid (by rw [← HGC.out, T1.out]), Lib.hid HF.out.drew⟩
      case measure => have := T2.out; simp [intOf]; omega
theorem gcd_any (a b : Nat) (w : World) (ha : a ≤ 1000) (hb : b ≤ 1000) :
    Calls Try.prog 24 #[.int .i64 a, .int .i64 b] w fun e w' => e = .returned (.int .i64 (Nat.gcd a b : Nat)) ∧ New w w' :=
  gcdI_any a b w (by omega) (by omega) (by omega) (by omega)
set_option maxHeartbeats 1000000 in
theorem right_any (p q : Nat) (w : World) (hp : 1 ≤ p) (hp' : p ≤ 1000) (hq : 1 ≤ q) (hq' : q ≤ 1000) :
    Calls Try.prog 22 #[.int .i64 p, .int .i64 q] w fun e w' => e = .returned (.bool (rightB p q)) ∧ New w w' := by
  obtain ⟨g, HG⟩ : ∃ g, Hid (g = Nat.gcd p q) := ⟨_, Lib.hid rfl⟩
  have hw := (Fr.refl (fun _ => False) w)
  by_cases h1 : p = 1
  · subst h1
    by_cases h2 : q = 1
    · subst h2
      go_enter Try.func22, Try.ntmps22
      go_wp2_with fail
      go_ret
      exact ⟨rfl, hw⟩
    · go_enter Try.func22, Try.ntmps22
      go_wp2_with fail
      go_ret
      exact ⟨ret_bool (by unfold rightB; have : ¬ q < 1 := (by omega); simp [h2, this]; omega), hw⟩
  · by_cases h2 : q < p
    · by_cases h3 : g = 1
      · go_enter Try.func22, Try.ntmps22
        go_wp2_with (go_at_call 24; refine (gcd_any p q _ hp' hq').mono ?_; rintro e w4 ⟨rfl, hF⟩; rw [← HG.out]; have HF := Lib.hid hF; clear hF)
        go_ret
        exact ⟨ret_bool (by have hi : ((g : Int) == 1) = (g == 1) := (by rw [Bool.eq_iff_iff, beq_iff_eq, beq_iff_eq]; omega); unfold rightB; rw [← HG.out]; simp only [h1, h2, decide_true, decide_false, Bool.false_and, Bool.true_and, Bool.false_or]; first | exact hi | simp [h3]), HF.out⟩
      · go_enter Try.func22, Try.ntmps22
        go_wp2_with (go_at_call 24; refine (gcd_any p q _ hp' hq').mono ?_; rintro e w4 ⟨rfl, hF⟩; rw [← HG.out]; have HF := Lib.hid hF; clear hF)
        go_ret
        exact ⟨ret_bool (by have hi : ((g : Int) == 1) = (g == 1) := (by rw [Bool.eq_iff_iff, beq_iff_eq, beq_iff_eq]; omega); unfold rightB; rw [← HG.out]; simp only [h1, h2, decide_true, decide_false, Bool.false_and, Bool.true_and, Bool.false_or]; first | exact hi | simp [h3]), HF.out⟩
    · go_enter Try.func22, Try.ntmps22
      go_wp2_with fail
      go_ret
      exact ⟨ret_bool (by unfold rightB; simp [h1, h2]), hw⟩
theorem tdiv_bd {p g : Int} (a1 : -1000000000000 ≤ p) (a2 : p ≤ 1000000000000) : -1000000000000 ≤ p.tdiv g ∧ p.tdiv g ≤ 1000000000000 := by
  have h : (p.tdiv g).natAbs = p.natAbs / g.natAbs := Int.natAbs_tdiv p g
  have := Nat.div_le_self p.natAbs g.natAbs
  omega
set_option maxHeartbeats 1000000 in
theorem lowest_any (p q : Int) (w : World) (a1 : -1000000000000 ≤ p) (a2 : p ≤ 1000000000000) (b1 : -1000000000000 ≤ q) (b2 : q ≤ 1000000000000) :
    Calls Try.prog 13 #[.int .i64 p, .int .i64 q] w fun e w' => e = .returned (.tuple #[.int .i64 (Kn.lowI p q).1, .int .i64 (Kn.lowI p q).2]) ∧ New w w' := by
  by_cases hz : q = 0
  · subst hz
    go_enter Try.func13, Try.ntmps13
    go_wp2_with fail
    go_ret2
    exact ⟨by unfold Kn.lowI; rfl, Fr.refl _ _⟩
  · obtain ⟨g, HG⟩ : ∃ g, Hid (g = Int.gcd p q) := ⟨_, Lib.hid rfl⟩
    have hg : 0 < g := by rw [HG.out]; exact Int.gcd_pos_of_ne_zero_right p hz
    have hg2 : g ≤ q.natAbs := by rw [HG.out]; exact Nat.le_of_dvd (by omega) (Int.gcd_dvd_natAbs_right p q)
    have CC := Lib.hid (gcdI_any p q w a1 a2 b1 b2)
    have g1 : (0 : Int) < (g : Int) := by omega
    have g2 : (g : Int) ≤ 1000000000000 := by omega
    have g0 : ¬ (g : Int) = 0 := by omega
    have g3 : ¬ -(g : Int) = 0 := by omega
    by_cases hn : q < 0
    · go_enter Try.func13, Try.ntmps13
      go_wp2_with (go_at_call 24; refine (gcdI_any p q _ a1 a2 b1 b2).mono ?_; rintro e w4 ⟨rfl, hF⟩; rw [← HG.out]; have HF := Lib.hid hF; clear hF)
      obtain ⟨x, HX⟩ : ∃ x, Hid (x = p.tdiv (-(g : Int))) := ⟨_, Lib.hid rfl⟩
      obtain ⟨y, HY⟩ : ∃ y, Hid (y = q.tdiv (-(g : Int))) := ⟨_, Lib.hid rfl⟩
      obtain ⟨x1, x2⟩ := tdiv_bd (g := (-(g : Int))) a1 a2
      obtain ⟨y1, y2⟩ := tdiv_bd (g := (-(g : Int))) b1 b2
      rw [← HX.out] at x1 x2
      rw [← HY.out] at y1 y2
      have e1 := HX.out.symm
      have e2 := HY.out.symm
      go_region
      go_wp2
      go_ret2
      have hL : Kn.lowI p q = (x, y) := by unfold Kn.lowI; rw [if_neg hz, if_pos hn, ← HG.out, ← HX.out, ← HY.out]
      exact ⟨by rw [hL]; rfl, HF.out.drew⟩
    · go_enter Try.func13, Try.ntmps13
      go_wp2_with (go_at_call 24; refine (gcdI_any p q _ a1 a2 b1 b2).mono ?_; rintro e w4 ⟨rfl, hF⟩; rw [← HG.out]; have HF := Lib.hid hF; clear hF)
      obtain ⟨x, HX⟩ : ∃ x, Hid (x = p.tdiv (g : Int)) := ⟨_, Lib.hid rfl⟩
      obtain ⟨y, HY⟩ : ∃ y, Hid (y = q.tdiv (g : Int)) := ⟨_, Lib.hid rfl⟩
      obtain ⟨x1, x2⟩ := tdiv_bd (g := (g : Int)) a1 a2
      obtain ⟨y1, y2⟩ := tdiv_bd (g := (g : Int)) b1 b2
      rw [← HX.out] at x1 x2
      rw [← HY.out] at y1 y2
      have e1 := HX.out.symm
      have e2 := HY.out.symm
      go_region
      go_wp2
      go_ret2
      have hL : Kn.lowI p q = (x, y) := by unfold Kn.lowI; rw [if_neg hz, if_neg (by omega), ← HG.out, ← HX.out, ← HY.out]
      exact ⟨by rw [hL]; rfl, HF.out.drew⟩
end Go.Proofs.Ytcfpdeeipbekfaa
