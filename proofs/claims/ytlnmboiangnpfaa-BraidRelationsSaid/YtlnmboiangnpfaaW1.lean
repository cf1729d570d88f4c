/- Walks over small functions of permutations: what each call returns. -/
import Derived.Test.YtlnmboiangnpfaaW0
namespace Go.Proofs.Ytlnmboiangnpfaa
open Go.RowKit

def pick (n m : Int) : Int := if n < 0 then -(n + 1).tmod m else n % m
theorem pick_range {n m : Int} (h0 : 1 ≤ m) : 0 ≤ pick n m ∧ pick n m < m := by
  unfold pick
  split
  · rw [← Int.neg_tmod]
    exact ⟨Int.tmod_nonneg _ (by omega), Int.tmod_lt_of_pos _ (by omega)⟩
  · exact ⟨Int.emod_nonneg _ (by omega), Int.emod_lt_of_pos _ (by omega)⟩

set_option maxHeartbeats 400000 in
theorem picked_any (n m : Int) (w : World) (hn : -9223372036854775808 ≤ n) (hn' : n ≤ 9223372036854775807) (h0 : 1 ≤ m) (hm : m ≤ 1000) :
    Calls Try.prog 5 #[.int .i64 n, .int .i64 m] w fun e w' => e = .returned (.int .i64 (pick n m)) ∧ w = w' := by
  by_cases h : n < 0
  · go_enter Try.func5, Try.ntmps5
    go_wp2
    go_ret
    exact ⟨ret_int (by unfold pick; rw [if_pos h]), rfl⟩
  · go_enter Try.func5, Try.ntmps5
    go_wp2
    go_ret
    exact ⟨ret_int (by unfold pick; rw [if_neg (by omega)]), rfl⟩

set_option maxHeartbeats 400000 in
theorem starts_any (b n : Nat) (p : List Nat) (i : Int) (w : World) (hn : n ∈ Bd.ns) (h1 : 1 ≤ i) (h2 : i < n) (hp : PermAt w b n p) :
    Calls Try.prog 34 #[.slice (some ⟨b, 0, none⟩) (n + 1) (n + 1), .int .i64 i] w fun e w' => e = .returned (.bool (Bd.starts p i.toNat)) ∧ New w w' := by
  obtain ⟨k, rfl⟩ := Int.eq_ofNat_of_zero_le (show 0 ≤ i by omega)
  have hn5 := ns_le hn
  have c1 := hp.1.cell (i := k) (by omega)
  have c2 := hp.1.cell (i := k + 1) (by omega)
  unfold cellsOf at c1 c2
  rw [Int.toNat_natCast]
  clear hp hn
  go_enter Try.func34, Try.ntmps34
  go_wp2
  go_quiet (fail)
  go_wp2
  go_ret
  exact ⟨ret_bool (by simp [Bd.starts, Bd.pg]), (Fr.refl _ _).drewN _⟩

theorem idx_step {p : List Nat} {x k : Nat} (hk : k < p.length) (h : k ≤ p.idxOf x) (hne : Bd.pg p k ≠ x) : k + 1 ≤ p.idxOf x := by
  rcases Nat.lt_or_ge k (p.idxOf x) with h1 | h1
  · omega
  · exfalso
    have e : k = p.idxOf x := by omega
    have := List.getElem_idxOf (x := x) (xs := p) (by omega)
    subst e
    apply hne
    rw [Bd.pg, List.getD_eq_getElem?_getD, List.getElem?_eq_getElem hk]
    exact this
theorem idx_here {p : List Nat} {x k : Nat} (hk : k < p.length) (h : k ≤ p.idxOf x) (he : Bd.pg p k = x) : p.idxOf x = k := by
  have : p.idxOf x ≤ k := by
    rw [Bd.pg, List.getD_eq_getElem?_getD, List.getElem?_eq_getElem hk] at he
    simp only [Option.getD_some] at he
    have h2 := List.idxOf_lt_length_iff.2 (List.getElem_mem hk)
    rw [he] at h2
    rcases Nat.lt_or_ge k (p.idxOf x) with h1 | h1
    · exfalso
      have := List.not_of_lt_findIdx (p := (· == x)) (xs := p) (i := k) (by simpa [List.idxOf] using h1)
      simp [he] at this
    · exact h1
  omega

set_option maxHeartbeats 400000 in
theorem index_any (b n : Nat) (p : List Nat) (x : Int) (w : World) (hn : n ∈ Bd.ns) (hx0 : 0 ≤ x) (hx1 : x ≤ n) (hp : PermAt w b n p) :
    Calls Try.prog 32 #[.slice (some ⟨b, 0, none⟩) (n + 1) (n + 1), .int .i64 x] w fun e w' => e = .returned (.int .i64 (p.idxOf x.toNat : Nat)) ∧ w = w' := by
  obtain ⟨y, rfl⟩ := Int.eq_ofNat_of_zero_le hx0
  rw [Int.toNat_natCast]
  have hl := Bd.perm_len hn hp.2
  have hx := (Bd.perm_mem hn hp.2 (x := y) (by omega)).1
  have hlt := List.idxOf_lt_length_iff.2 hx
  rw [hl] at hlt
  have HL := Lib.hid hl
  have hn5 := ns_le hn
  have hr := hp.1
  clear hl hx hp hn
  go_enter Try.func32, Try.ntmps32
  go_wp2
  go_loop [5, 8] (fun _ i => ∃ k : Nat, k ≤ p.idxOf y ∧ i = .int .i64 k) (fun _ i => n + 1 - (intOf i).toNat)
  case atStart => exact ⟨0, Nat.zero_le _, rfl⟩
  case round =>
    obtain ⟨k, hk, rfl⟩ := hrel
    have hkn : k < n + 1 := by omega
    have hc := hr.cell (i := k) hkn
    unfold cellsOf at hc
    by_cases he : Bd.pg p k = y
    · have e2 : ((y : Int) == ((Bd.pg p k : Nat) : Int)) = true := by rw [beq_iff_eq]; omega
      have H := Lib.hid (idx_here (by rw [HL.out]; exact hkn) hk he)
      clear he
      go_wp2
      go_ret
      exact ⟨ret_int (by rw [H.out]), rfl⟩
    · have e2 : ((y : Int) == ((Bd.pg p k : Nat) : Int)) = false := by rw [beq_eq_false_iff_ne]; omega
      have h2 := idx_step (by rw [HL.out]; exact hkn) hk he
      clear he
      go_wp2
      go_round
      case rel => exact ⟨k + 1, h2, by go_num⟩
      case measure => simp [intOf]; omega

set_option maxHeartbeats 400000 in
theorem ends_any (b n : Nat) (p : List Nat) (i : Int) (w : World) (hn : n ∈ Bd.ns) (h1 : 1 ≤ i) (h2 : i < n) (hp : PermAt w b n p) :
    Calls Try.prog 35 #[.slice (some ⟨b, 0, none⟩) (n + 1) (n + 1), .int .i64 i] w fun e w' => e = .returned (.bool (Bd.ends p i.toNat)) ∧ w = w' := by
  obtain ⟨k, rfl⟩ := Int.eq_ofNat_of_zero_le (show 0 ≤ i by omega)
  rw [Int.toNat_natCast]
  have c1 := index_any b n p k w hn (by omega) (by omega) hp
  have c2 := index_any b n p (k + 1 : Nat) w hn (by omega) (by omega) hp
  rw [Int.toNat_natCast] at c1 c2
  have C1 := Lib.hid c1
  have C2 := Lib.hid c2
  have hn5 := ns_le hn
  clear hp hn c1 c2
  go_enter Try.func35, Try.ntmps35
  go_wp2_with fail
  refine C1.out.mono ?_
  rintro e w' ⟨rfl, rfl⟩
  go_wp2_with fail
  refine C2.out.mono ?_
  rintro e w' ⟨rfl, rfl⟩
  go_wp2
  go_ret
  exact ⟨ret_bool (by simp [Bd.ends]), rfl⟩
end Go.Proofs.Ytlnmboiangnpfaa
