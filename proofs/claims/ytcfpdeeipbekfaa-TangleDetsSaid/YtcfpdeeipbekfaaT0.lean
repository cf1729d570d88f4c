/- Walks: picked, gcd, right, Same, total. -/
import Derived.Test.YtcfpdeeipbekfaaW15
import Derived.Test.YtcfpdeeipbekfaaMAlld
namespace Go.Proofs.Ytcfpdeeipbekfaa
open Go.RowKit

def pick (n m : Int) : Int := if n < 0 then -(n + 1).tmod m else n % m
theorem pick_range {n m : Int} (h0 : 1 ≤ m) : 0 ≤ pick n m ∧ pick n m < m := by
  unfold pick
  split
  · rw [← Int.neg_tmod]
    exact ⟨Int.tmod_nonneg _ (by omega), Int.tmod_lt_of_pos _ (by omega)⟩
  · exact ⟨Int.emod_nonneg _ (by omega), Int.emod_lt_of_pos _ (by omega)⟩

set_option maxHeartbeats 400000 in
theorem picked_any (n m : Int) (w : World) (hn : -9223372036854775808 ≤ n) (hn' : n ≤ 9223372036854775807) (h0 : 1 ≤ m) (hm : m ≤ 1000) :
    Calls Try.prog 5 #[.int .i64 n, .int .i64 m] w fun e w' => e = .returned (.int .i64 (pick n m)) ∧ w = w' := by
  by_cases h : n < 0
  · go_enter Try.func5, Try.ntmps5
    go_wp2
    go_ret
    exact ⟨ret_int (by unfold pick; rw [if_pos h]), rfl⟩
  · go_enter Try.func5, Try.ntmps5
    go_wp2
    go_ret
    exact ⟨ret_int (by unfold pick; rw [if_neg (by omega)]), rfl⟩

def rightB (p q : Nat) : Bool := (decide (p = 1) && decide (q = 1)) || (decide (q < p) && Nat.gcd p q == 1)
end Go.Proofs.Ytcfpdeeipbekfaa
