/- Walks: New, May. -/
import Derived.Test.YtdelekkbkpldjaaDoorW4
namespace Go.Proofs.YtdelekkbkpldjaaDoor
open Go.RowKit

theorem GaveSh.new {ok : Bool} {X : List Kn.Cr} {L : Int} {w w1 : World} {e : Ending} {w' : World} (h : New w w1) (g : GaveSh ok X L w1 e w') : GaveSh ok X L w e w' := by
  obtain ⟨h1, h2⟩ := g
  refine ⟨h.trans h1, ?_⟩
  rcases h2 with ⟨e1, b, e2, h3, h4, v, bi, bo, base, h5, h6⟩ | h2
  · exact .inl ⟨e1, b, e2, h3, Nat.le_trans h.size h4, v, bi, bo, base, h5, Nat.le_trans h.size h6⟩
  · exact .inr h2
theorem build_n (a : Option Addr) (n c : Nat) (X : List Kn.Cr) (L : Int) (w : World) (hx : CrsAt w a X) (hn : n = X.length) (lx : n ≤ 16) : Calls Tryd.prog 68 #[.agg #[.slice a n c, .int .i64 L]] w (GaveSh (Kn.okB X) X L w) := by
  subst hn; exact build_any a c X L w hx lx

set_option maxHeartbeats 1000000 in
theorem new_any (a : Option Addr) (n c : Nat) (X : List Kn.Cr) (L : Int) (w : World) (hx : CrsAt w a X) (hn : n = X.length) (lx : n ≤ 9223372036854775807) (l1 : -9223372036854775808 ≤ L) (l2 : L ≤ 9223372036854775807) :
    Calls Tryd.prog 57 #[.agg #[.slice a n c, .int .i64 L]] w (GaveSh (Kn.mayB X L) X L w) := by
  have HN := Lib.hid hn
  have HX := Lib.hid hx
  clear hx hn
  by_cases h : n ≤ 16 ∧ 0 ≤ L ∧ L ≤ 16 ∧ ¬ ((n : Int) + L = 0)
  · obtain ⟨h1, h2, h3, h4⟩ := h
    have hm : Kn.mayB X L = Kn.okB X := by
      unfold Kn.mayB
      have e1 := HN.out
      rw [decide_eq_true (by omega : X.length ≤ 16), decide_eq_true h2, decide_eq_true h3]
      have : (decide (X.length = 0) && decide (L = 0)) = false := by
        rw [Bool.eq_false_iff]; intro h; simp only [Bool.and_eq_true, decide_eq_true_eq] at h; omega
      rw [this]; rfl
    rw [hm]
    clear hm
    have e4 : decide ((n : Int) + L = 0) = false := by simpa using h4
    have e5 : ((n : Int) + L == 0) = false := by simpa using h4
    go_enter Tryd.func57, Tryd.ntmps57
    go_wp2_with (go_at_call 68; refine (build_n a n c X L _ (New.crs ((Fr.refl _ _).alloc _) HX.out) HN.out h1).mono ?_; rintro e w4 ⟨hF, h5⟩; rcases h5 with ⟨ho, b, rfl, hs, hb, hnw⟩ | ⟨ho, rfl⟩)
    · have HF := Lib.hid hF
      have HO := Lib.hid ho
      have HS := Lib.hid hs
      have HNW : Hid (ShNew w.heap.size w4 b X L) := Lib.hid (by
        obtain ⟨v, bi, bo, base, g1, g2⟩ := hnw
        rw [World.size_alloc] at g2
        exact ⟨v, bi, bo, base, g1, by omega⟩)
      simp at hb
      clear hF ho hs hnw
      go_wp2
      go_ret2
      exact ⟨((Fr.refl _ _).alloc _).trans HF.out, .inl ⟨HO.out, b, rfl, HS.out, by omega, HNW.out⟩⟩
    · have HF := Lib.hid hF
      have HO := Lib.hid ho
      clear hF ho
      go_wp2
      go_ret2
      exact ⟨((Fr.refl _ _).alloc _).trans HF.out, .inr ⟨HO.out, rfl⟩⟩
  · have hno : Kn.mayB X L = false := by
      rw [Bool.eq_false_iff]
      intro hh
      apply h
      unfold Kn.mayB at hh
      simp only [Bool.and_eq_true, decide_eq_true_eq, Bool.not_eq_true', Bool.and_eq_false_iff, decide_eq_false_iff_not] at hh
      have := HN.out
      omega
    rw [hno]
    clear hno
    by_cases h1 : n ≤ 16
    · by_cases h2 : L < 0
      · clear h
        go_enter Tryd.func57, Tryd.ntmps57
        go_wp2
        go_ret2
        exact ⟨(Fr.refl _ _).alloc _, .inr ⟨rfl, rfl⟩⟩
      · by_cases h3 : L ≤ 16
        · have h4 : (n : Int) + L = 0 := Classical.byContradiction fun x => h ⟨h1, by omega, h3, x⟩
          obtain rfl : n = 0 := by omega
          obtain rfl : L = 0 := by omega
          clear h h4
          go_enter Tryd.func57, Tryd.ntmps57
          go_wp2
          go_ret2
          exact ⟨(Fr.refl _ _).alloc _, .inr ⟨rfl, rfl⟩⟩
        · have h4 : (16 : Int) < L := by omega
          clear h
          go_enter Tryd.func57, Tryd.ntmps57
          go_wp2
          go_ret2
          exact ⟨(Fr.refl _ _).alloc _, .inr ⟨rfl, rfl⟩⟩
    · have h4 : (16 : Int) < n := by omega
      clear h
      go_enter Tryd.func57, Tryd.ntmps57
      go_wp2
      go_ret2
      exact ⟨(Fr.refl _ _).alloc _, .inr ⟨rfl, rfl⟩⟩

end Go.Proofs.YtdelekkbkpldjaaDoor
