/- Walks: picked; numbers that came in; the first loop's words for renamed. -/
import Derived.BigRegion
import Derived.Test.YtgjmjbgicfkojaaW26
import Derived.Test.YtgjmjbgicfkojaaMAll
namespace Go.Proofs.Ytgjmjbgicfkojaa
open Go.RowKit

def pick (n m : Int) : Int := if n < 0 then -(n + 1).tmod m else n % m
theorem pick_range {n m : Int} (h0 : 1 ≤ m) : 0 ≤ pick n m ∧ pick n m < m := by
  unfold pick
  split
  · rw [← Int.neg_tmod]
    exact ⟨Int.tmod_nonneg _ (by omega), Int.tmod_lt_of_pos _ (by omega)⟩
  · exact ⟨Int.emod_nonneg _ (by omega), Int.emod_lt_of_pos _ (by omega)⟩

set_option maxHeartbeats 400000 in
theorem picked_any (n m : Int) (w : World) (hn : -9223372036854775808 ≤ n) (hn' : n ≤ 9223372036854775807) (h0 : 1 ≤ m) (hm : m ≤ 1000) :
    Calls Try.prog 20 #[.int .i64 n, .int .i64 m] w fun e w' => e = .returned (.int .i64 (pick n m)) ∧ w = w' := by
  by_cases h : n < 0
  · go_enter Try.func20, Try.ntmps20
    go_wp2
    go_ret
    exact ⟨ret_int (by unfold pick; rw [if_pos h]), rfl⟩
  · go_enter Try.func20, Try.ntmps20
    go_wp2
    go_ret
    exact ⟨ret_int (by unfold pick; rw [if_neg (by omega)]), rfl⟩
theorem picked_nat (n : Int) (m : Nat) (hn : -9223372036854775808 ≤ n) (hn' : n ≤ 9223372036854775807) (h0 : 1 ≤ m) (hm : m ≤ 1000) :
    ∃ k : Nat, k < m ∧ ∀ w, Calls Try.prog 20 #[.int .i64 n, .int .i64 (m : Nat)] w fun e w' => e = .returned (.int .i64 (k : Nat)) ∧ w' = w := by
  obtain ⟨h1, h2⟩ := pick_range (n := n) (m := m) (by omega)
  refine ⟨(pick n m).toNat, by omega, fun w => ?_⟩
  rw [show (((pick n m).toNat : Nat) : Int) = pick n m by omega]
  exact (picked_any n m w hn hn' (by omega) (by omega)).mono fun _ _ h => ⟨h.1, h.2.symm⟩
/- numbers that came in -/
structure RawAt (w : World) (a : Option Addr) (zs : List Int) : Prop where
  at_ : zs = [] ∨ ∃ b o, a = some ⟨b, o, none⟩ ∧ ∀ i, i < zs.length → w.cell? ⟨b, o + i, none⟩ = some (.int .i64 (zs.getD i 0))
  lo : ∀ i, -9223372036854775808 ≤ zs.getD i 0
  hi : ∀ i, zs.getD i 0 ≤ 9223372036854775807
  len : zs.length ≤ 9223372036854775807
theorem New.raw {w w' : World} (h : New w w') {a : Option Addr} {zs : List Int} (hz : RawAt w a zs) : RawAt w' a zs := by
  refine ⟨?_, hz.lo, hz.hi, hz.len⟩
  rcases hz.at_ with e | ⟨b, o, e, hc⟩
  · exact .inl e
  · exact .inr ⟨b, o, e, fun i hi => h.cell (hc i hi) fun x => x⟩
theorem RawAt.get {w : World} {a : Option Addr} {zs : List Int} (hz : RawAt w a zs) {i : Nat} (hi : i < zs.length) : ∃ b o z, a = some ⟨b, o, none⟩ ∧ w.cell? ⟨b, o + i, none⟩ = some (.int .i64 z) ∧ -9223372036854775808 ≤ z ∧ z ≤ 9223372036854775807 := by
  rcases hz.at_ with rfl | ⟨b, o, e, hc⟩
  · simp at hi
  · exact ⟨b, o, _, e, hc i hi, hz.lo i, hz.hi i⟩
end Go.Proofs.Ytgjmjbgicfkojaa
