/- Walks: wind.Open, homfly.open. -/
import Derived.Test.YtlicglicfijelaaH7
import Derived.Test.YtlicglicfijelaaW6
import Derived.Test.YtlicglicfijelaaW15
namespace Go.Proofs.Ytlicglicfijelaa
open Go.RowKit

def GaveOpen (c : Nat) (X : List Kn.Cr) (L : Int) (w : World) (e : Ending) (w' : World) : Prop :=
  New w w' ∧ ((c = 0 ∧ ∃ b, e = .returned (.tuple #[.pointer (some ⟨b, 0, none⟩), .int .i64 0]) ∧ ShAt w' b X L) ∨ (c ≠ 0 ∧ e = .returned (.tuple #[.pointer none, .int .i64 c])))
def opC (X : List Kn.Cr) (L : Int) : Nat := if Kn.mayB X L then (if Kn.planarB X then 0 else 5) else 7
set_option maxRecDepth 100000 in
set_option maxHeartbeats 1000000 in
theorem wopen_any (a : Option Addr) (n c : Nat) (X : List Kn.Cr) (L : Int) (w : World) (hx : CrsAt w a X) (hn : n = X.length) (lx : n ≤ 9223372036854775807) (l1 : -9223372036854775808 ≤ L) (l2 : L ≤ 9223372036854775807) :
    Calls Try.prog 23 #[.agg #[.slice a n c, .int .i64 L]] w (GaveOpen (opC X L) X L w) := by
  have HN := Lib.hid hn
  have HX := Lib.hid hx
  clear hx hn
  go_enter Try.func23, Try.ntmps23
  go_wp2_with (go_at_call 17; refine (new_any a n c X L _ (New.crs ((Fr.refl _ _).alloc _) HX.out) HN.out lx l1 l2).mono ?_; rintro e w4 ⟨hF, h5⟩; rcases h5 with ⟨ho, b, rfl, hs, _⟩ | ⟨ho, rfl⟩)
  · have HF : Hid (New w w4) := Lib.hid (((Fr.refl _ _).alloc _).trans hF)
    have HO := Lib.hid ho
    have HS := Lib.hid hs
    have HOK := Lib.hid (mayB_ok ho)
    clear hF ho hs
    obtain ⟨p, HP⟩ : ∃ p, Hid (p = Kn.planarB X) := ⟨_, Lib.hid rfl⟩
    have HOC : Hid (opC X L = if p then 0 else 5) := Lib.hid (by unfold opC; rw [HO.out, if_pos rfl, HP.out])
    cases p
    all_goals
      go_wp2_with (go_at_call 36; refine (planar_any b X L _ HS.out HOK.out.1 HOK.out.2).mono ?_; rintro e w5 ⟨rfl, hE⟩; rw [← HP.out]; have HE := Lib.hid hE; clear hE)
      go_ret2
    · exact ⟨HF.out.trans HE.out, .inr ⟨by rw [HOC.out]; decide, by rw [HOC.out]; rfl⟩⟩
    · exact ⟨HF.out.trans HE.out, .inl ⟨by rw [HOC.out]; rfl, b, rfl, New.shAt HE.out HS.out⟩⟩
  · have HF : Hid (New w w4) := Lib.hid (((Fr.refl _ _).alloc _).trans hF)
    have HOC : Hid (opC X L = 7) := Lib.hid (by unfold opC; rw [ho]; rfl)
    clear hF ho
    go_wp2
    go_ret2
    exact ⟨HF.out, .inr ⟨by rw [HOC.out]; decide, by rw [HOC.out]; rfl⟩⟩
def hoC (X : List Kn.Cr) (L : Int) : Nat := if opC X L = 0 then (if 8 < X.length then 2 else 0) else opC X L
set_option maxRecDepth 100000 in
set_option maxHeartbeats 2000000 in
theorem hopen_any (a : Option Addr) (n c : Nat) (X : List Kn.Cr) (L : Int) (w : World) (hx : CrsAt w a X) (hn : n = X.length) (lx : n ≤ 9223372036854775807) (l1 : -9223372036854775808 ≤ L) (l2 : L ≤ 9223372036854775807) :
    Calls Try.prog 11 #[.agg #[.slice a n c, .int .i64 L], .int .i64 0, .bool false] w (GaveOpen (hoC X L) X L w) := by
  have HN := Lib.hid hn
  have HX := Lib.hid hx
  clear hx hn
  go_enter Try.func11, Try.ntmps11
  go_wp2_with fail
  have hNa : New w (w.alloc (.cells #[.slice a n c, .int .i64 L] 24)) := (Fr.refl _ _).alloc _
  refine (wopen_any a n c X L _ (New.crs hNa HX.out) HN.out lx l1 l2).mono ?_
  rintro e w1 ⟨hF, h5⟩
  have HF : Hid (New w w1) := Lib.hid (hNa.trans hF)
  clear hNa hF
  rcases h5 with ⟨hc, b, rfl, hs⟩ | ⟨hc, rfl⟩
  · obtain ⟨a1, c1, s0, _, _⟩ := hs.crs
    rw [← HN.out] at s0
    have HS := Lib.hid hs
    have HC := Lib.hid hc
    clear hs hc
    by_cases h8 : 8 < n
    · have h8' : (8 : Int) < (n : Int) := by omega
      have HO : Hid (hoC X L = 2) := Lib.hid (by unfold hoC; rw [if_pos HC.out, if_pos (by have := HN.out; omega)])
      go_wp2
      go_ret2
      exact ⟨HF.out, .inr ⟨by rw [HO.out]; decide, by rw [HO.out]; rfl⟩⟩
    · have h8' : ¬ (8 : Int) < (n : Int) := by omega
      have HO : Hid (hoC X L = 0) := Lib.hid (by unfold hoC; rw [if_pos HC.out, if_neg (by have := HN.out; omega)])
      go_wp2
      go_ret2
      exact ⟨HF.out, .inl ⟨HO.out, b, rfl, HS.out⟩⟩
  · have HO : Hid (hoC X L = opC X L) := Lib.hid (by unfold hoC; rw [if_neg hc])
    obtain ⟨q, HQ⟩ : ∃ q, Hid (q = opC X L) := ⟨_, Lib.hid rfl⟩
    rw [← HQ.out] at hc ⊢
    have hq : ((q : Int) == 0) = false := by simp; exact hc
    have HC := Lib.hid hc
    clear hc
    go_wp2
    go_ret2
    exact ⟨HF.out, .inr ⟨by rw [HO.out, ← HQ.out]; exact HC.out, by rw [HO.out, ← HQ.out]; rfl⟩⟩
end Go.Proofs.Ytlicglicfijelaa
