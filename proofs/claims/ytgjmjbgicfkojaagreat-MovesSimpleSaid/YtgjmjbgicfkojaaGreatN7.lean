/- Walks: open. -/
import Derived.Test.YtgjmjbgicfkojaaGreatN5
import Derived.Test.YtgjmjbgicfkojaaGreatW16
/- Walks: open. -/
namespace Go.Proofs.YtgjmjbgicfkojaaGreat
open Go.RowKit

/- a bench of the call's own, with a diagram's faces; or none -/
def GaveBe (ok : Bool) (X : List Kn.Cr) (L : Int) (w : World) (e : Ending) (w' : World) : Prop :=
  New w w' ∧ ((ok = true ∧ ∃ b s fv, e = .returned (.tuple #[.pointer (some ⟨b, 0, none⟩), .bool true]) ∧ BeAt w' b s fv X L ∧ Rows OwnD 0 71 w' fv (Kn.facesL X) ∧ w.heap.size ≤ b ∧ w.heap.size ≤ s) ∨ (ok = false ∧ e = .returned (.tuple #[.pointer none, .bool false])))
set_option maxRecDepth 100000 in
set_option maxHeartbeats 2000000 in
theorem open_any (a : Option Addr) (n c : Nat) (X : List Kn.Cr) (L : Int) (w : World) (hx : CrsAt w a X) (hn : n = X.length) (lx : n ≤ 9223372036854775807) (l1 : -9223372036854775808 ≤ L) (l2 : L ≤ 9223372036854775807) :
    Calls Tryz.prog 17 #[.agg #[.slice a n c, .int .i64 L]] w (GaveBe (Kn.mayB X L && Kn.planarB X) X L w) := by
  have HN := Lib.hid hn
  have HX := Lib.hid hx
  clear hx hn
  go_enter Tryz.func17, Tryz.ntmps17
  go_wp2_with fail
  refine (new_any a n c X L _ (New.crs ((Fr.refl _ _).alloc _) HX.out) HN.out lx l1 l2).mono ?_
  rintro e w4 ⟨hF, h5⟩
  rcases h5 with ⟨ho, s, rfl, hs, hlb, _⟩ | ⟨ho, rfl⟩
  · have HF : Hid (New w w4) := Lib.hid (((Fr.refl _ _).alloc _).trans hF)
    have HO := Lib.hid ho
    have HS := Lib.hid hs
    have HLB := Lib.hid hlb
    have HOK := Lib.hid (mayB_ok ho)
    clear hF ho hs hlb
    obtain ⟨p, HP⟩ : ∃ p, Hid (Kn.planarB X = p) := ⟨_, Lib.hid rfl⟩
    go_wp2_with fail
    refine (planar_any s X L _ HS.out HOK.out.1 HOK.out.2).mono ?_
    rintro e w5 ⟨rfl, hE⟩
    rw [HP.out]
    have HE := Lib.hid (HF.out.trans hE)
    have HS5 := Lib.hid (New.shAt hE HS.out)
    clear hE
    cases p
    · go_wp2
      go_ret2
      exact ⟨HE.out, .inr ⟨by rw [HO.out, HP.out]; rfl, rfl⟩⟩
    · go_wp2_with fail
      refine (faces_any s X L _ HS5.out HOK.out.1 HOK.out.2).mono ?_
      rintro e w6 ⟨v, rfl, hr, hE⟩
      obtain ⟨fa, fc, rfl⟩ := hr.sl
      obtain ⟨m, hm⟩ : ∃ m, (Kn.facesL X).length = m := ⟨_, rfl⟩
      rw [hm] at hr ⊢
      clear hm
      have HS6 := Lib.hid (New.shAt hE HS5.out)
      have HR6 : Hid (Rows OwnD 0 71 w6 (.slice fa m fc) (Kn.facesL X)) := Lib.hid (Rows.base0 hr)
      have HE6 := Lib.hid (HE.out.trans hE)
      clear hE hr
      go_wp2
      go_ret2
      have hN : New w6 (w6.alloc (.cells #[.pointer (some ⟨s, 0, none⟩), (Value.slice fa m fc)] 64)) := (Fr.refl _ _).alloc _
      refine ⟨HE6.out.trans hN, .inl ⟨by rw [HO.out, HP.out]; rfl, _, s, _, rfl, ⟨heap_alloc_new _ _, New.shAt hN HS6.out⟩, RowsD.new HR6.out hN, HE6.out.size, ?_⟩⟩
      have := HLB.out
      simp at this
      omega
  · have HF : Hid (New w w4) := Lib.hid (((Fr.refl _ _).alloc _).trans hF)
    have HO := Lib.hid ho
    clear hF ho
    go_wp2
    go_ret2
    exact ⟨HF.out, .inr ⟨by rw [HO.out]; rfl, rfl⟩⟩
end Go.Proofs.YtgjmjbgicfkojaaGreat

/- Walks: Without's inner function. -/
namespace Go.Proofs.YtgjmjbgicfkojaaGreat
open Go.RowKit

set_option maxRecDepth 100000 in
set_option maxHeartbeats 1000000 in
theorem with1_any (Bn Bc rn rc m a u v : Nat) (w : World) (hn : w.cell? ⟨Bn, 0, none⟩ = some (.slice (some ⟨rn, 0, none⟩) m m)) (hc : w.cell? ⟨Bc, 0, none⟩ = some (.slice (some ⟨rc, 0, none⟩) m m))
    (hu : w.cell? ⟨rc, a, none⟩ = some (.int .i64 u)) (hv : w.cell? ⟨rn, u, none⟩ = some (.int .i64 v)) (ha : a < m) (hum : u < m) :
    Calls Tryz.prog 87 #[.int .i64 a, .pointer (some ⟨Bn, 0, none⟩), .pointer (some ⟨Bc, 0, none⟩)] w (fun e w' => e = .returned (.int .i64 v) ∧ New w w') := by
  have i1 : (0 : Int) ≤ (a : Int) := by omega
  have i2 : (a : Int) < (m : Int) := by omega
  have i3 : (0 : Int) ≤ (u : Int) := by omega
  have i4 : (u : Int) < (m : Int) := by omega
  go_enter Tryz.func87, Tryz.ntmps87
  go_wp2_with fail
  go_quiet (fail)
  go_wp2
  go_ret
  exact ⟨rfl, (Fr.refl _ _).drewN _⟩
end Go.Proofs.YtgjmjbgicfkojaaGreat
