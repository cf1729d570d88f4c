/- Walks: May, At. -/
import Derived.IntWalk
import Derived.Test.YtdelekkbkpldjaaDoorP2
namespace Go.Proofs.YtdelekkbkpldjaaDoor
open Go.RowKit

theorem form_lt : ∀ {l : List Pl.T}, Pl.Form l → ∀ k, k + 1 < l.length → (l.getD k (0, 0)).1 < (l.getD (k + 1) (0, 0)).1
  | [], _, _, h => by simp at h
  | t :: l, hf, 0, h => by
    have h' : 0 < l.length := by simpa using h
    simp only [List.getD_cons_succ, List.getD_cons_zero]
    rw [List.getD_eq_getElem?_getD, List.getElem?_eq_getElem h']
    exact hf.2.1 _ (List.getElem_mem h')
  | t :: l, hf, k + 1, h => by
    simp only [List.getD_cons_succ]
    exact form_lt hf.2.2 k (by simpa using h)
theorem may_at {l : List Pl.T} (h : Pl.May l) {k : Nat} (hk : k < l.length) : (-1000 ≤ (l.getD k (0, 0)).1 ∧ (l.getD k (0, 0)).1 ≤ 1000) ∧ (-1000000 ≤ (l.getD k (0, 0)).2 ∧ (l.getD k (0, 0)).2 ≤ 1000000) ∧ (l.getD k (0, 0)).2 ≠ 0 := by
  rw [List.getD_eq_getElem?_getD, List.getElem?_eq_getElem hk]
  have hm := List.getElem_mem hk
  exact ⟨(h.2.2 _ hm).1, (h.2.2 _ hm).2, Pl.form_ne h.2.1 hm⟩

set_option maxHeartbeats 1000000 in
theorem may_any (v : Value) (l : List Pl.T) (w : World) (hx : Ts w v l) (hm : Pl.May l) :
    Calls Tryd.prog 38 #[v] w fun e w' => e = .returned (.bool true) ∧ New w w' := by
  obtain ⟨a, c, rfl, hx⟩ := hx
  obtain ⟨n, hn⟩ : ∃ n, n = l.length := ⟨_, rfl⟩
  rw [← hn]
  have hn64 : n ≤ 64 := by rw [hn]; exact hm.1
  have HN := Lib.hid hn
  have HX := Lib.hid hx
  have HM := Lib.hid hm
  clear hn hx hm
  go_enter Tryd.func38, Tryd.ntmps38
  go_wp2
  go_loopw [10] (fun i wr => ∃ k : Nat, k ≤ n ∧ i = .int .i64 k ∧ Hid (New w wr)) (fun i _ => n - (intOf i).toNat)
  case atStart => exact ⟨0, by omega, rfl, Lib.hid (Fr.refl _ _)⟩
  case round =>
    obtain ⟨k, hk, rfl, HF⟩ := hrel
    by_cases hlt : k < n
    · obtain ⟨b, o, rfl, d1, d2⟩ := (New.terms HF.out HX.out).at (k := k) (by have := HN.out; omega)
      have hb := may_at HM.out (k := k) (by rw [← HN.out]; exact hlt)
      obtain ⟨e1, H1⟩ : ∃ e, Hid (e = (l.getD k (0, 0)).1) := ⟨_, Lib.hid rfl⟩
      obtain ⟨e2, H2⟩ : ∃ e, Hid (e = (l.getD k (0, 0)).2) := ⟨_, Lib.hid rfl⟩
      rw [← H1.out] at d1 hb
      rw [← H2.out] at d2 hb
      obtain ⟨⟨b1, b2⟩, ⟨b3, b4⟩, b5⟩ := hb
      have g1 : decide (e1 < -1000) = false := by simp; omega
      have g2 : decide (1000 < e1) = false := by simp; omega
      have g3 : decide (e2 < -1000000) = false := by simp; omega
      have g4 : decide (1000000 < e2) = false := by simp; omega
      have g5 : (e2 == 0) = false := by simpa using b5
      have i1 : (0 : Int) ≤ (k : Int) := by omega
      have i2 : (k : Int) < (n : Int) := by omega
      clear b5
      by_cases h0 : k = 0
      · subst h0
        simp only [Nat.zero_mul, Nat.add_zero] at d1 d2
        go_wp2
        go_quiet (fail)
        go_wp2
        go_roundw
        case rel => exact ⟨1, by omega, by go_num, Lib.hid ((Fr.alloc HF.out _).drewN _)⟩
        case measure => simp [intOf]; omega
      · obtain ⟨j, rfl⟩ : ∃ j, k = j + 1 := ⟨k - 1, by omega⟩
        obtain ⟨b', o', hbo, d3, _⟩ := (New.terms HF.out HX.out).at (k := j) (by have := HN.out; omega)
        obtain ⟨rfl, rfl⟩ : b = b' ∧ o = o' := by injection hbo with hbo; injection hbo with x y _; exact ⟨x, y⟩
        have hl := form_lt HM.out.2.1 j (by rw [← HN.out]; exact hlt)
        obtain ⟨e3, H3⟩ : ∃ e, Hid (e = (l.getD j (0, 0)).1) := ⟨_, Lib.hid rfl⟩
        rw [← H3.out] at d3
        rw [← H3.out, ← H1.out] at hl
        have g6 : decide (e1 ≤ e3) = false := by simp; omega
        have hbl : b < wr.heap.size := World.block_lt_of_cell? wr _ d3
        have hnb : ¬ wr.heap.size = b := by omega
        have d4 := (World.cell?_alloc_lt wr (.cells #[.int .i64 e1, .int .i64 e2] 44) ⟨b, o + j * 2, none⟩ hbl).trans d3
        have j1 : (0 : Int) ≤ (j : Int) := by omega
        have j2 : (j : Int) < (n : Int) := by omega
        have hw : IntKind.i64.wrap (j : Int) = (j : Int) := by first | exact IntWalk.i64_in _ (by omega) | exact IntWalk.i64_in _ (by omega) (by omega)
        go_wp2
        go_quiet (fail)
        go_wp2
        clear hw
        go_roundw
        case rel => exact ⟨j + 1 + 1, by omega, by go_num, Lib.hid ((Fr.alloc HF.out _).drewN _)⟩
        case measure => simp [intOf]; omega
    · go_wp2
      go_ret
      exact ⟨rfl, HF.out⟩
end Go.Proofs.YtdelekkbkpldjaaDoor
