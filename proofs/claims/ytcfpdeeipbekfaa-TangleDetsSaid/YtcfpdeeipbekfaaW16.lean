/- Walks: code.Faces, code.Planar. -/
import Derived.Test.YtcfpdeeipbekfaaW15
namespace Go.Proofs.Ytcfpdeeipbekfaa
open Go.RowKit

def GaveBoolE (ok p : Bool) (w : World) (e : Ending) (w' : World) : Prop :=
  New w w' ∧ ((ok = true ∧ e = .returned (.tuple #[.bool p, .int .i64 0])) ∨ (ok = false ∧ e = .returned (.tuple #[.bool false, .int .i64 7])))
set_option maxHeartbeats 400000 in
theorem cplanar_any (a : Option Addr) (n c : Nat) (X : List Kn.Cr) (L : Int) (w : World) (hx : CrsAt w a X) (hn : n = X.length) (lx : n ≤ 9223372036854775807) (l1 : -9223372036854775808 ≤ L) (l2 : L ≤ 9223372036854775807) :
    Calls Try.prog 7 #[.agg #[.slice a n c, .int .i64 L]] w (GaveBoolE (Kn.mayB X L) (Kn.planarB X) w) := by
  have HN := Lib.hid hn
  have HX := Lib.hid hx
  clear hx hn
  go_enter Try.func7, Try.ntmps7
  go_wp2_with (go_at_call 18; refine (new_any a n c X L _ (New.crs ((Fr.refl _ _).alloc _) HX.out) HN.out lx l1 l2).mono ?_; rintro e w4 ⟨hF, h5⟩; rcases h5 with ⟨ho, b, rfl, hs, _⟩ | ⟨ho, rfl⟩)
  · have HF : Hid (New w w4) := Lib.hid (((Fr.refl _ _).alloc _).trans hF)
    have HO := Lib.hid ho
    have HS := Lib.hid hs
    have HOK := Lib.hid (mayB_ok ho)
    clear hF ho hs
    go_wp2_with (go_at_call 19; refine (planar_any b X L _ HS.out HOK.out.1 HOK.out.2).mono ?_; rintro e w5 ⟨rfl, hE⟩; have HE := Lib.hid hE; clear hE)
    go_ret2
    exact ⟨HF.out.trans HE.out, .inl ⟨HO.out, rfl⟩⟩
  · have HF : Hid (New w w4) := Lib.hid (((Fr.refl _ _).alloc _).trans hF)
    have HO := Lib.hid ho
    clear hF ho
    go_wp2
    go_ret2
    exact ⟨HF.out, .inr ⟨HO.out, rfl⟩⟩
end Go.Proofs.Ytcfpdeeipbekfaa
