/- Walks: picked, gcd, right, Same, total. -/
import Derived.Test.YteedpdlibhjhpaaDoorW15
import Derived.Test.YteedpdlibhjhpaaDoorMAll
namespace Go.Proofs.YteedpdlibhjhpaaDoor
open Go.RowKit

def pick (n m : Int) : Int := if n < 0 then -(n + 1).tmod m else n % m
theorem pick_range {n m : Int} (h0 : 1 ≤ m) : 0 ≤ pick n m ∧ pick n m < m := by
  unfold pick
  split
  · rw [← Int.neg_tmod]
    exact ⟨Int.tmod_nonneg _ (by omega), Int.tmod_lt_of_pos _ (by omega)⟩
  · exact ⟨Int.emod_nonneg _ (by omega), Int.emod_lt_of_pos _ (by omega)⟩

set_option maxHeartbeats 400000 in
theorem picked_any (n m : Int) (w : World) (hn : -9223372036854775808 ≤ n) (hn' : n ≤ 9223372036854775807) (h0 : 1 ≤ m) (hm : m ≤ 1000) :
    Calls Tryd.prog 4 #[.int .i64 n, .int .i64 m] w fun e w' => e = .returned (.int .i64 (pick n m)) ∧ w = w' := by
  by_cases h : n < 0
  · go_enter Tryd.func4, Tryd.ntmps4
    go_wp2
    go_ret
    exact ⟨ret_int (by unfold pick; rw [if_pos h]), rfl⟩
  · go_enter Tryd.func4, Tryd.ntmps4
    go_wp2
    go_ret
    exact ⟨ret_int (by unfold pick; rw [if_neg (by omega)]), rfl⟩

theorem natOf {x : Int} (h : 0 ≤ x) : ∃ n : Nat, x = n := ⟨x.toNat, by omega⟩
set_option maxHeartbeats 1000000 in
theorem gcd_any (a b : Nat) (w : World) (ha : a ≤ 1000) (hb : b ≤ 1000) :
    Calls Tryd.prog 23 #[.int .i64 a, .int .i64 b] w fun e w' => e = .returned (.int .i64 (Nat.gcd a b : Nat)) ∧ New w w' := by
  obtain ⟨g, HG⟩ : ∃ g, Hid (g = Nat.gcd a b) := ⟨_, Lib.hid rfl⟩
  rw [← HG.out]
  go_enter Tryd.func23, Tryd.ntmps23
  go_wp2
  go_loopw [0, 1] (fun x y wr => ∃ c d : Nat, x = .int .i64 c ∧ y = .int .i64 d ∧ c ≤ 1000 ∧ d ≤ 1000 ∧ Hid (Nat.gcd c d = g) ∧ Hid (New w wr)) (fun _ y _ => (intOf y).toNat)
  case atStart => exact ⟨a, b, rfl, rfl, ha, hb, Lib.hid HG.out.symm, Lib.hid (Fr.refl _ _)⟩
  case round =>
    obtain ⟨c, d, rfl, rfl, hc, hd, HGC, HF⟩ := hrel
    by_cases hz : d = 0
    · subst hz
      go_wp2
      go_ret
      exact ⟨ret_int (by have := HGC.out; rw [Nat.gcd_zero_right] at this; omega), HF.out⟩
    · have hz' : (d : Int) ≠ 0 := by omega
      have e1 : (c : Int).tmod d = ((c % d : Nat) : Int) := by
        rw [Int.tmod_eq_emod_of_nonneg (by omega)]; rfl
      obtain ⟨q, HQ⟩ : ∃ q, Hid (q = c % d) := ⟨_, Lib.hid rfl⟩
      have hq : q < d := by rw [HQ.out]; exact Nat.mod_lt _ (by omega)
      rw [← HQ.out] at e1
      go_wp2_with fail
      go_region
      go_wp2
      go_roundw
      case rel => exact ⟨d, q, rfl, by first | rfl | rw [e1] | simp [e1], hd, by omega, Lib.hid (by rw [← HGC.out, HQ.out, Nat.gcd_comm d, Nat.gcd_comm c d, Nat.gcd_rec d c]), Lib.hid HF.out.drew⟩
      case measure => simp [intOf]; omega

def rightB (p q : Nat) : Bool := (decide (p = 1) && decide (q = 1)) || (decide (q < p) && Nat.gcd p q == 1)
set_option maxHeartbeats 1000000 in
theorem right_any (p q : Nat) (w : World) (hp : 1 ≤ p) (hp' : p ≤ 1000) (hq : 1 ≤ q) (hq' : q ≤ 1000) :
    Calls Tryd.prog 11 #[.int .i64 p, .int .i64 q] w fun e w' => e = .returned (.bool (rightB p q)) ∧ New w w' := by
  obtain ⟨g, HG⟩ : ∃ g, Hid (g = Nat.gcd p q) := ⟨_, Lib.hid rfl⟩
  have hw := (Fr.refl (fun _ => False) w)
  by_cases h1 : p = 1
  · subst h1
    by_cases h2 : q = 1
    · subst h2
      go_enter Tryd.func11, Tryd.ntmps11
      go_wp2_with fail
      go_ret
      exact ⟨rfl, hw⟩
    · go_enter Tryd.func11, Tryd.ntmps11
      go_wp2_with fail
      go_ret
      exact ⟨ret_bool (by unfold rightB; have : ¬ q < 1 := (by omega); simp [h2, this]; omega), hw⟩
  · by_cases h2 : q < p
    · by_cases h3 : g = 1
      · go_enter Tryd.func11, Tryd.ntmps11
        go_wp2_with (go_at_call 23; refine (gcd_any p q _ hp' hq').mono ?_; rintro e w4 ⟨rfl, hF⟩; rw [← HG.out]; have HF := Lib.hid hF; clear hF)
        go_ret
        exact ⟨ret_bool (by have hi : ((g : Int) == 1) = (g == 1) := (by rw [Bool.eq_iff_iff, beq_iff_eq, beq_iff_eq]; omega); unfold rightB; rw [← HG.out]; simp only [h1, h2, decide_true, decide_false, Bool.false_and, Bool.true_and, Bool.false_or]; first | exact hi | simp [h3]), HF.out⟩
      · go_enter Tryd.func11, Tryd.ntmps11
        go_wp2_with (go_at_call 23; refine (gcd_any p q _ hp' hq').mono ?_; rintro e w4 ⟨rfl, hF⟩; rw [← HG.out]; have HF := Lib.hid hF; clear hF)
        go_ret
        exact ⟨ret_bool (by have hi : ((g : Int) == 1) = (g == 1) := (by rw [Bool.eq_iff_iff, beq_iff_eq, beq_iff_eq]; omega); unfold rightB; rw [← HG.out]; simp only [h1, h2, decide_true, decide_false, Bool.false_and, Bool.true_and, Bool.false_or]; first | exact hi | simp [h3]), HF.out⟩
    · go_enter Tryd.func11, Tryd.ntmps11
      go_wp2_with fail
      go_ret
      exact ⟨ret_bool (by unfold rightB; simp [h1, h2]), hw⟩
def sameB (p q s : Nat) : Bool := decide (q = s) || decide ((q * s - 1) % p = 0)
def GaveSame (p q s : Nat) (w : World) (e : Ending) (w' : World) : Prop :=
  New w w' ∧ ((rightB p q && rightB p s) = true ∧ e = .returned (.tuple #[.bool (sameB p q s), .int .i64 0]) ∨ (rightB p q && rightB p s) = false ∧ e = .returned (.tuple #[.bool false, .int .i64 3]))
set_option maxHeartbeats 1000000 in
theorem same_frac (p q s : Nat) (w : World) (hp : 1 ≤ p) (hp' : p ≤ 1000) (hq : 1 ≤ q) (hq' : q ≤ 1000) (hs : 1 ≤ s) (hs' : s ≤ 1000) :
    Calls Tryd.prog 5 #[.int .i64 p, .int .i64 q, .int .i64 p, .int .i64 s] w (GaveSame p q s w) := by
  obtain ⟨r1, H1⟩ : ∃ r, Hid (r = rightB p q) := ⟨_, Lib.hid rfl⟩
  obtain ⟨r2, H2⟩ : ∃ r, Hid (r = rightB p s) := ⟨_, Lib.hid rfl⟩
  unfold GaveSame
  rw [← H1.out, ← H2.out]
  cases r1
  · go_enter Tryd.func5, Tryd.ntmps5
    go_wp2_with (go_at_call 11; refine (right_any _ _ _ (by assumption) (by assumption) (by assumption) (by assumption)).mono ?_; rintro e w4 ⟨rfl, hF⟩; first | (rw [← H1.out]; have HF := Lib.hid hF; clear hF H1) | (rw [← H2.out]; have HE := Lib.hid hF; clear hF H2))
    go_ret2
    exact ⟨HF.out, .inr ⟨rfl, rfl⟩⟩
  cases r2
  · go_enter Tryd.func5, Tryd.ntmps5
    go_wp2_with (go_at_call 11; refine (right_any _ _ _ (by assumption) (by assumption) (by assumption) (by assumption)).mono ?_; rintro e w4 ⟨rfl, hF⟩; first | (rw [← H1.out]; have HF := Lib.hid hF; clear hF H1) | (rw [← H2.out]; have HE := Lib.hid hF; clear hF H2))
    go_ret2
    exact ⟨HF.out.trans HE.out, .inr ⟨rfl, rfl⟩⟩
  · have hm : q * s ≤ 1000 * 1000 := Nat.mul_le_mul hq' hs'
    have hm' : 1 ≤ q * s := Nat.mul_le_mul hq hs
    obtain ⟨m, HM⟩ : ∃ m, Hid (m = q * s) := ⟨_, Lib.hid rfl⟩
    have em : (q : Int) * (s : Int) = (m : Int) := by rw [HM.out]; simp
    rw [← HM.out] at hm hm'
    have HEM := Lib.hid em
    clear em
    by_cases c : q = s
    · subst c
      go_enter Tryd.func5, Tryd.ntmps5
      go_wp2_with (go_at_call 11; refine (right_any _ _ _ (by assumption) (by assumption) (by assumption) (by assumption)).mono ?_; rintro e w4 ⟨rfl, hF⟩; first | (rw [← H1.out]; have HF := Lib.hid hF; clear hF H1) | (rw [← H2.out]; have HE := Lib.hid hF; clear hF H2))
      go_ret2
      exact ⟨HF.out.trans HE.out, .inl ⟨rfl, by simp [sameB]⟩⟩
    · have hz : (p : Int) ≠ 0 := by omega
      have em := HEM.out
      have e1 : ((m : Int) - 1).tmod p = (((m - 1) % p : Nat) : Int) := by
        rw [Int.tmod_eq_emod_of_nonneg (by omega), show (m : Int) - 1 = ((m - 1 : Nat) : Int) by omega]; rfl
      obtain ⟨t, HT⟩ : ∃ t, Hid (t = (m - 1) % p) := ⟨_, Lib.hid rfl⟩
      rw [← HT.out] at e1
      by_cases d : t = 0
      · go_enter Tryd.func5, Tryd.ntmps5
        go_wp2_with (go_at_call 11; refine (right_any _ _ _ (by assumption) (by assumption) (by assumption) (by assumption)).mono ?_; rintro e w4 ⟨rfl, hF⟩; first | (rw [← H1.out]; have HF := Lib.hid hF; clear hF H1) | (rw [← H2.out]; have HE := Lib.hid hF; clear hF H2))
        go_ret2
        exact ⟨HF.out.trans HE.out, .inl ⟨rfl, by simp [sameB, ← HM.out, ← HT.out, d]⟩⟩
      · go_enter Tryd.func5, Tryd.ntmps5
        go_wp2_with (go_at_call 11; refine (right_any _ _ _ (by assumption) (by assumption) (by assumption) (by assumption)).mono ?_; rintro e w4 ⟨rfl, hF⟩; first | (rw [← H1.out]; have HF := Lib.hid hF; clear hF H1) | (rw [← H2.out]; have HE := Lib.hid hF; clear hF H2))
        go_ret2
        exact ⟨HF.out.trans HE.out, .inl ⟨rfl, by simp [sameB, ← HM.out, ← HT.out, d, c]; omega⟩⟩
end Go.Proofs.YteedpdlibhjhpaaDoor
