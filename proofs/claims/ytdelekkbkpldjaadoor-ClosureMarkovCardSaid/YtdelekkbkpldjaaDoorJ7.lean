/- Walks: bracket.open, Jones. -/
import Derived.Test.YtdelekkbkpldjaaDoorJ6
namespace Go.Proofs.YtdelekkbkpldjaaDoor
open Go.RowKit

set_option maxRecDepth 100000 in
set_option maxHeartbeats 1000000 in
theorem bopen_any (a : Option Addr) (n c : Nat) (X : List Kn.Cr) (L : Int) (w : World) (hx : CrsAt w a X) (hn : n = X.length) (lx : n ≤ 12) (l1 : -9223372036854775808 ≤ L) (l2 : L ≤ 9223372036854775807) (hop : opC X L = 0) :
    Calls Tryd.prog 20 #[.agg #[.slice a n c, .int .i64 L]] w (fun e w' => New w w' ∧ ∃ b, e = .returned (.tuple #[.pointer (some ⟨b, 0, none⟩), .int .i64 0]) ∧ ShAt w' b X L) := by
  have HN := Lib.hid hn
  have HX := Lib.hid hx
  have HOP := Lib.hid hop
  clear hx hn hop
  go_enter Tryd.func20, Tryd.ntmps20
  go_wp2_with fail
  refine (open_any a n c X L _ (New.crs ((Fr.refl _ _).alloc _) HX.out) HN.out (by omega) l1 l2).mono ?_
  rintro e w4 ⟨hF, h5⟩
  rcases h5 with ⟨_, b, rfl, hs⟩ | ⟨ho, rfl⟩
  · have HF : Hid (New w w4) := Lib.hid (((Fr.refl _ _).alloc _).trans hF)
    have HS := Lib.hid hs
    obtain ⟨a1, c1, h0, _, _⟩ := hs.crs
    rw [← HN.out] at h0
    clear hF hs
    go_wp2
    go_ret2
    exact ⟨HF.out, b, rfl, HS.out⟩
  · exact absurd HOP.out ho
theorem and1_all : ((List.range 33).all fun q => decide (bits .and .i64 (((q : Nat) : Int) - 16) 1 = (((q : Nat) : Int) - 16) % 2)) = true := by decide +kernel
theorem and1 {x : Int} (h1 : -16 ≤ x) (h2 : x ≤ 16) : bits .and .i64 x 1 = x % 2 := by
  have := of_decide_eq_true (List.all_eq_true.1 and1_all (x + 16).toNat (List.mem_range.2 (by omega)))
  rwa [show (((x + 16).toNat : Nat) : Int) - 16 = x by omega] at this
def sg (x : Int) : Int := 1 - 2 * (x % 2)
/- Jones's polynomial as a list of terms -/
def JonesIs (X : List Kn.Cr) (L : Nat) (m : List Pl.T) : Prop := ∃ l : List Pl.T, Pl.Is m (sh (-3 * wrt X) (sg (wrt X)) l) ∧ ∀ x, Pl.co l x = Pl.tot (Kn.kindsTo X L (2 ^ X.length)) (Kn.phj x)
set_option maxRecDepth 100000 in
set_option maxHeartbeats 2000000 in
theorem jones_any (a : Option Addr) (n c : Nat) (X : List Kn.Cr) (L : Nat) (w : World) (hx : CrsAt w a X) (hn : n = X.length) (lx : n ≤ 12) (hL : 2 * n + L ≤ 30) (hL1 : L ≤ 16) (hop : opC X (L : Int) = 0) (ht : EnvT w) :
    Calls Tryd.prog 10 #[.agg #[.slice a n c, .int .i64 L]] w (fun e w' => New w w' ∧ ∃ v m, e = .returned (.tuple #[v, .int .i64 0]) ∧ Ts w' v m ∧ m.length ≤ 1000000 ∧ JonesIs X L m) := by
  have HN := Lib.hid hn
  have HX := Lib.hid hx
  have HOP := Lib.hid hop
  have HT := Lib.hid ht
  have hmay : Kn.mayB X (L : Int) = true := by
    unfold opC at hop
    split at hop
    · assumption
    · cases hop
  have HOK := Lib.hid (mayB_ok hmay)
  have h0 : 0 < n + L := by
    unfold Kn.mayB at hmay
    simp only [Bool.and_eq_true, decide_eq_true_eq, Bool.not_eq_true', Bool.and_eq_false_iff, decide_eq_false_iff_not] at hmay
    have := hmay.1.2
    omega
  clear hx hn hop ht hmay
  obtain ⟨t, HTW⟩ : ∃ t, Hid (t = wrt X) := ⟨_, Lib.hid rfl⟩
  have hb := wrt_le X
  rw [← HN.out, ← HTW.out] at hb
  obtain ⟨t1, t2⟩ := hb
  have t3 : -12 ≤ t := by omega
  have t4 : t ≤ 12 := by omega
  have han : bits .and .i64 t 1 = t % 2 := and1 (by omega) (by omega)
  go_enter Tryd.func10, Tryd.ntmps10
  go_wp2_with fail
  refine (bopen_any a n c X L _ (New.crs ((Fr.refl _ _).alloc _) HX.out) HN.out lx (by omega) (by omega) HOP.out).mono ?_
  rintro e w4 ⟨hF, b, rfl, hs⟩
  have HF : Hid (New w w4) := Lib.hid (((Fr.refl _ _).alloc _).trans hF)
  have HS := Lib.hid hs
  clear hF hs
  go_wp2_with fail
  refine (turns_any b X L _ HS.out (by have := HN.out; omega)).mono ?_
  rintro e w5 ⟨rfl, hF⟩
  rw [← HTW.out]
  have HF5 := Lib.hid hF
  clear hF
  go_wp2_with fail
  refine (bracket_any b n X L _ (New.shAt HF5.out HS.out) HOK.out.1 HN.out lx hL hL1 h0 (New.envT (HF.out.trans HF5.out) HT.out)).mono ?_
  rintro e w6 ⟨v6, l6, rfl, hw6, hF6, hco, hex, hsz⟩
  have HF6 := Lib.hid hF6
  have HW6 := Lib.hid hw6
  have HCO := Lib.hid hco
  have HEX := Lib.hid hex
  have HSZ := Lib.hid hsz
  clear hw6 hF6 hco hex hsz
  go_wp2_with fail
  have s1 : -1 ≤ 1 - 2 * (t % 2) ∧ 1 - 2 * (t % 2) ≤ 1 := by omega
  refine (shiftW_any v6 (-3 * t) (1 - 2 * (t % 2)) l6 301 _ HW6.out (by omega) (by omega) (by omega) (fun u hu => by have := HEX.out u hu; omega) (Nat.le_trans HSZ.out (by decide))).mono ?_
  rintro e w7 ⟨v7, rfl, hw7, hF⟩
  have HF7 := Lib.hid hF
  have HW7 := Lib.hid hw7
  clear hF hw7
  go_wp2_with fail
  refine (form_any v7 _ 301 _ HW7.out (by omega)).mono ?_
  rintro e w8 ⟨m, hm, v8, rfl, hts, hF⟩
  have HF8 := Lib.hid hF
  have HM := Lib.hid hm
  have HTS := Lib.hid hts
  clear hF hm hts
  go_wp2
  go_ret2
  refine ⟨(((HF.out.trans HF5.out).trans HF6.out).trans HF7.out).trans HF8.out, v8, m, rfl, HTS.out, ?_, l6, ?_, ?_⟩
  · have h1 := Pl.form_length (hi := 200) (lo := -200) HM.out.1 fun u hu => by
      obtain ⟨y, hy, e⟩ := Pl.form_exp HM.out.1 HM.out.2 hu
      obtain ⟨z, hz, rfl⟩ := List.mem_map.1 hy
      have := HEX.out z hz
      simp only at e
      omega
    omega
  · rw [← HTW.out]; exact HM.out
  · rw [← HN.out]; exact HCO.out
end Go.Proofs.YtdelekkbkpldjaaDoor
