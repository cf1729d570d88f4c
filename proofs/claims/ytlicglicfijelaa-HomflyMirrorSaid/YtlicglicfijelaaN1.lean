/- Walks: Index, Contains of numbers. -/
import Derived.Test.YtlicglicfijelaaN0
namespace Go.Proofs.Ytlicglicfijelaa
open Go.RowKit

/- numbers in a row -/
def IntsAt (w : World) (g : Nat) (gs : List Int) : Prop := ∀ i, i < gs.length → w.cell? ⟨g, i, none⟩ = some (.int .i64 (gs.getD i 0))
theorem IntsAt.new {w w' : World} {g : Nat} {gs : List Int} (h : IntsAt w g gs) (k : New w w') : IntsAt w' g gs := fun i hi => k.cell (h i hi) fun x => x
set_option maxHeartbeats 1000000 in
theorem index_any (g n c : Nat) (gs : List Int) (v : Int) (w : World) (h : IntsAt w g gs) (hn : n = gs.length) (hl : n ≤ 16) :
    Calls Try.prog 53 #[.slice (some ⟨g, 0, none⟩) n c, .int .i64 v] w (fun e w' => (∃ r, e = .returned (.int .i64 r) ∧ (0 ≤ r ↔ v ∈ gs)) ∧ w' = w) := by
  have HN := Lib.hid hn
  have H := Lib.hid h
  clear hn h
  go_enter Try.func53, Try.ntmps53
  go_wp2
  go_loop [8] (fun i => ∃ k : Nat, k ≤ n ∧ i = .int .i64 k ∧ Hid (∀ j, j < k → gs.getD j 0 ≠ v)) (fun i => n - (intOf i).toNat)
  case atStart => exact ⟨0, by omega, rfl, Lib.hid fun j hj => by omega⟩
  case round =>
    obtain ⟨k, hk, rfl, HQ⟩ := hrel
    by_cases hkn : k < n
    · have hc := H.out k (by have := HN.out; omega)
      have i1 : (0 : Int) ≤ (k : Int) := by omega
      have i2 : (k : Int) < (n : Int) := by omega
      obtain ⟨u, HU⟩ : ∃ u, Hid (gs.getD k 0 = u) := ⟨_, Lib.hid rfl⟩
      rw [HU.out] at hc
      by_cases huv : v = u
      · have hb : (v == u) = true := by simpa using huv
        go_wp2
        go_ret
        refine ⟨⟨_, rfl, ?_⟩, rfl⟩
        constructor
        · intro _
          first | rw [← HU.out] | rw [huv, ← HU.out]
          have hkg : k < gs.length := by have := HN.out; omega
          rw [List.getD_eq_getElem?_getD, List.getElem?_eq_getElem hkg]
          exact List.getElem_mem hkg
        · intro _; omega
      · have hb : (v == u) = false := by simpa using huv
        go_wp2
        go_round
        case rel =>
          refine ⟨k + 1, by omega, by go_num, Lib.hid fun j hj => ?_⟩
          by_cases e : j = k
          · rw [e, HU.out]; exact fun k => huv k.symm
          · exact HQ.out j (by omega)
        case measure => simp [intOf]; omega
    · obtain rfl : k = n := by omega
      go_wp2
      go_ret
      refine ⟨⟨_, rfl, ?_⟩, rfl⟩
      constructor
      · intro h; omega
      · intro h
        obtain ⟨i, hi, e⟩ := List.mem_iff_getElem.1 h
        exact absurd (by rw [List.getD_eq_getElem?_getD, List.getElem?_eq_getElem hi]; exact e) (HQ.out i (by have := HN.out; omega))
set_option maxRecDepth 100000 in
set_option maxHeartbeats 1000000 in
theorem contains_any (g n c : Nat) (gs : List Int) (v : Int) (w : World) (h : IntsAt w g gs) (hn : n = gs.length) (hl : n ≤ 16) :
    Calls Try.prog 41 #[.slice (some ⟨g, 0, none⟩) n c, .int .i64 v] w (fun e w' => e = .returned (.bool (decide (v ∈ gs))) ∧ w' = w) := by
  have HN := Lib.hid hn
  have H := Lib.hid h
  clear hn h
  obtain ⟨r, HR⟩ : ∃ r, Hid (decide (v ∈ gs) = r) := ⟨_, Lib.hid rfl⟩
  rw [HR.out]
  go_enter Try.func41, Try.ntmps41
  go_wp2_with fail
  refine (index_any g n c gs v _ H.out HN.out hl).mono ?_
  rintro e w' ⟨⟨x, rfl, hx⟩, rfl⟩
  have HX : Hid (decide (0 ≤ x) = r) := Lib.hid (by rw [← HR.out, Bool.eq_iff_iff, decide_eq_true_eq, decide_eq_true_eq]; exact hx)
  clear hx
  go_wp2
  go_ret
  exact ⟨ret_bool HX.out, rfl⟩
end Go.Proofs.Ytlicglicfijelaa
