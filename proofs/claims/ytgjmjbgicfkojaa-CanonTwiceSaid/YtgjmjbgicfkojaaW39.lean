/- Walks: the law CanonAny. -/
import Derived.Test.YtgjmjbgicfkojaaW38
import Derived.Test.YtgjmjbgicfkojaaW35
import Derived.Test.YtgjmjbgicfkojaaW30
namespace Go.Proofs.Ytgjmjbgicfkojaa
open Go.RowKit

theorem may_mk {X Y : List Kn.Cr} {L : Int} (h : Kn.mayB X L = true) (hl : Y.length = X.length) (hY : Kn.Ok Y) : Kn.mayB Y L = true := by
  unfold Kn.mayB at h ⊢
  rw [hl]
  simp only [Bool.and_eq_true] at h ⊢
  exact ⟨h.1, (Kn.ok_iff Y).2 hY⟩
theorem renamed_all (a a1 a2 : Option Addr) (n c k1 c1 k2 c2 : Nat) (X : List Kn.Cr) (L : Int) (z1 z2 : List Int) (w : World) (hx : CrsAt w a X) (hn : n = X.length) (hm : Kn.mayB X L = true)
    (hz1 : RawAt w a1 z1) (hk1 : k1 = z1.length) (hz2 : RawAt w a2 z2) (hk2 : k2 = z2.length) :
    Calls Try.prog 11 #[.agg #[.slice a n c, .int .i64 L], .slice a1 k1 c1, .slice a2 k2 c2] w (GaveRen X L w) := by
  by_cases h : 0 < n
  · exact renamed_any a a1 a2 n c k1 c1 k2 c2 X L z1 z2 w hx hn hm h hz1 hk1 hz2 hk2
  · have h0 : n = 0 := by omega
    subst h0
    obtain rfl : X = [] := List.length_eq_zero_iff.1 hn.symm
    exact renamed_nil a a1 a2 c k1 c1 k2 c2 L w

set_option maxRecDepth 100000 in
set_option maxHeartbeats 4000000 in
theorem canonAny_any (a a1 a2 : Option Addr) (n c k1 c1 k2 c2 : Nat) (X : List Kn.Cr) (L : Int) (z1 z2 : List Int) (w : World) (hx : CrsAt w a X) (hn : n = X.length) (lx : n ≤ 9223372036854775807) (l1 : -9223372036854775808 ≤ L) (l2 : L ≤ 9223372036854775807)
    (hz1 : RawAt w a1 z1) (hk1 : k1 = z1.length) (hz2 : RawAt w a2 z2) (hk2 : k2 = z2.length) :
    Calls Try.prog 4 #[.agg #[.slice a n c, .int .i64 L], .slice a1 k1 c1, .slice a2 k2 c2] w (fun e w' => e = .returned (.bool true) ∧ New w w') := by
  have HN := Lib.hid hn
  have HX := Lib.hid hx
  have HZ1 := Lib.hid hz1
  have HZ2 := Lib.hid hz2
  have HK1 := Lib.hid hk1
  have HK2 := Lib.hid hk2
  clear hx hn hz1 hz2 hk1 hk2
  by_cases hm : Kn.mayB X L = true
  · have HM := Lib.hid hm
    have HOK := Lib.hid (mayB_ok hm)
    have hn16 : n ≤ 16 := by have := HN.out; have := HOK.out.2; omega
    clear hm
    go_enter Try.func4, Try.ntmps4
    go_wp2_with fail
    refine (awake_any _).mono ?_
    rintro e w1 ⟨rfl, hN⟩
    have HN1 : Hid (New w w1) := Lib.hid (((Fr.refl _ w).alloc _).trans hN)
    have HB1 := Lib.hid (hN.blk (heap_alloc_new w (.cells #[.slice a n c, .int .i64 L] 24)) fun x => x)
    obtain ⟨p1, p2, _, _⟩ := box2_c HB1.out
    clear hN
    go_wp2_with fail
    refine (may_any a n c X L _ (New.crs HN1.out HX.out) HN.out lx l1 l2).mono ?_
    rintro e w2 ⟨rfl, hN⟩
    rw [HM.out]
    have HN2 := Lib.hid (HN1.out.trans hN)
    have HB2 := Lib.hid (hN.blk HB1.out fun x => x)
    clear hN p1 p2
    obtain ⟨p1, p2, _, _⟩ := box2_c HB2.out
    go_wp2_with fail
    refine (renamed_all a a1 a2 n c k1 c1 k2 c2 X L z1 z2 _ (New.crs HN2.out HX.out) HN.out HM.out (New.raw HN2.out HZ1.out) HK1.out (New.raw HN2.out HZ2.out) HK2.out).mono ?_
    rintro e w3 ⟨f, t, sc, hf, ht, rfl, hown, hN⟩
    obtain ⟨Y, HY⟩ : ∃ Y, Hid (Y = Kn.renL X f t) := ⟨_, Lib.hid rfl⟩
    have hiso := Kn.ren_iso hf ht
    rw [← HY.out] at hown hiso
    have HI := Lib.hid hiso
    have HYK := Lib.hid (hiso.ok HOK.out.1)
    have HYL : Hid (Y.length = X.length) := Lib.hid hiso.len
    have HYM := Lib.hid (may_mk HM.out hiso.len HYK.out)
    have HYF : Hid (Kn.formL X = Kn.formL Y) := Lib.hid (hiso.form HOK.out.1)
    rw [← HYL.out] at hown
    obtain ⟨b1, d1, rfl, hcy⟩ := own_crs hown
    rw [HYL.out, ← HN.out]
    have HN3 := Lib.hid (HN2.out.trans hN)
    have HB3 := Lib.hid ((hN.alloc (.cells #[.slice b1 n d1, .int .i64 L] 24)).blk HB2.out fun x => x)
    have HC3 := Lib.hid (New.crs ((Fr.refl _ w3).alloc (.cells #[.slice b1 n d1, .int .i64 L] 24)) hcy)
    have HR3 := Lib.hid (heap_alloc_new w3 (.cells #[.slice b1 n d1, .int .i64 L] 24))
    clear hf ht hiso hown hcy hN p1 p2
    obtain ⟨p1, p2, _, _⟩ := box2_c HB3.out
    obtain ⟨q1, q2, _, _⟩ := box2_c HR3.out
    have HYN : Hid (n = Y.length) := Lib.hid (by rw [HYL.out]; exact HN.out)
    go_wp2_with fail
    refine (same_any a b1 n n c d1 X Y L _ (New.crs (HN3.out.alloc _) HX.out) HC3.out HN.out HYN.out HM.out HYM.out l1 l2).mono ?_
    rintro e w4 ⟨rfl, hN⟩
    rw [decide_eq_true HYF.out]
    have HN4 := Lib.hid ((HN3.out.alloc _).trans hN)
    have HR4 := Lib.hid (hN.blk HR3.out fun x => x)
    have HC4 := Lib.hid (New.crs hN HC3.out)
    clear hN p1 p2 q1 q2
    obtain ⟨q1, q2, _, _⟩ := box2_c HR4.out
    go_wp2_with fail
    refine (canon_all b1 n d1 Y L _ HC4.out HYN.out lx l1 l2).mono ?_
    rintro e w5 ⟨hN, h5⟩
    obtain ⟨_, sc, rfl, hown⟩ := h5.resolve_right (fun h => by have h1 := h.1; rw [HYM.out] at h1; cases h1)
    obtain ⟨Z, HZ⟩ : ∃ Z, Hid (Z = Kn.formL Y) := ⟨_, Lib.hid rfl⟩
    rw [← HZ.out] at hown
    have HZL : Hid (n = Z.length) := Lib.hid (by rw [HZ.out, HYK.out.form_len]; exact HYN.out)
    have HZK : Hid (Kn.Ok Z) := Lib.hid (by rw [HZ.out]; exact HYK.out.form_ok)
    have HZM : Hid (Kn.mayB Z L = true) := Lib.hid (may_mk HYM.out (by rw [← HZL.out, ← HYN.out]) HZK.out)
    have HZZ : Hid (Kn.formL Z = Z) := Lib.hid (by rw [HZ.out]; exact HYK.out.form_form)
    obtain ⟨b2, d2, rfl, hcz⟩ := own_crs hown
    rw [← HZL.out]
    have HN5 := Lib.hid (HN4.out.trans hN)
    have HC5 := Lib.hid (New.crs ((Fr.refl _ w5).alloc (.cells #[.slice b2 n d2, .int .i64 L] 24)) hcz)
    have HS5 := Lib.hid (heap_alloc_new w5 (.cells #[.slice b2 n d2, .int .i64 L] 24))
    clear hown hcz hN h5 q1 q2
    obtain ⟨q1, q2, _, _⟩ := box2_c HS5.out
    go_wp2_with fail
    refine (canon_all b2 n d2 Z L _ HC5.out HZL.out lx l1 l2).mono ?_
    rintro e w6 ⟨hN, h5⟩
    obtain ⟨_, sc, rfl, hown⟩ := h5.resolve_right (fun h => by have h1 := h.1; rw [HZM.out] at h1; cases h1)
    rw [HZZ.out] at hown
    obtain ⟨b3, d3, rfl, hcz⟩ := own_crs hown
    rw [← HZL.out]
    have hN6 := hN.alloc (.cells #[.slice b3 n d3, .int .i64 L] 24)
    have HN6 := Lib.hid ((HN5.out.alloc (.cells #[.slice b2 n d2, .int .i64 L] 24)).trans hN6)
    have HC6 := Lib.hid (New.crs hN6 HC5.out)
    have HD6 := Lib.hid (New.crs ((Fr.refl _ w6).alloc (.cells #[.slice b3 n d3, .int .i64 L] 24)) hcz)
    have HS6 := Lib.hid (hN6.blk HS5.out fun x => x)
    have HT6 := Lib.hid (heap_alloc_new w6 (.cells #[.slice b3 n d3, .int .i64 L] 24))
    clear hown hcz hN h5 q1 q2 hN6
    obtain ⟨q1, q2, _, _⟩ := box2_c HS6.out
    obtain ⟨r1, r2, _, _⟩ := box2_c HT6.out
    go_wp2_with fail
    refine (may_any b2 n d2 Z L _ HC6.out HZL.out lx l1 l2).mono ?_
    rintro e w7 ⟨rfl, hN⟩
    rw [HZM.out]
    have HN7 := Lib.hid (HN6.out.trans hN)
    have HC7 := Lib.hid (New.crs hN HC6.out)
    have HD7 := Lib.hid (New.crs hN HD6.out)
    have HS7 := Lib.hid (hN.blk HS6.out fun x => x)
    have HT7 := Lib.hid (hN.blk HT6.out fun x => x)
    clear hN q1 q2 r1 r2
    obtain ⟨q1, q2, _, _⟩ := box2_c HS7.out
    obtain ⟨r1, r2, _, _⟩ := box2_c HT7.out
    have q0 := Try.eq42a
    go_wp2
    clear q1 q2 r1 r2
    obtain ⟨wo, rfl⟩ : ∃ wo, wo = w7 := ⟨_, rfl⟩
    go_loopw [16] (fun i wr => ∃ k : Nat, k ≤ n ∧ i = .int .i64 k ∧ Hid (New wo wr)) (fun i _ => n - (intOf i).toNat)
    case atStart => exact ⟨0, by omega, rfl, Lib.hid (Fr.refl _ _)⟩
    case round =>
      obtain ⟨k, hk, rfl, HF⟩ := hrel
      obtain ⟨q1, q2, _, _⟩ := box2_c (HF.out.blk HS7.out fun x => x)
      obtain ⟨r1, r2, _, _⟩ := box2_c (HF.out.blk HT7.out fun x => x)
      by_cases hlt : k < n
      · obtain ⟨b, o, rfl, d1⟩ := (New.crs HF.out HC7.out).at (k := k) (by have := HZL.out; omega)
        obtain ⟨b', o', rfl, d2⟩ := (New.crs HF.out HD7.out).at (k := k) (by have := HZL.out; omega)
        obtain ⟨x1, x2, x3, x4, x5, H1⟩ := cr_parts Z k
        rw [H1.out] at d1 d2
        obtain ⟨a1, a2, a3, a4, a5⟩ := d1
        obtain ⟨b1, b2, b3, b4, b5⟩ := d2
        have i1 : (0 : Int) ≤ (k : Int) := by omega
        have i2 : (k : Int) < (n : Int) := by omega
        have hn := fun w => ne42v w x1 x2 x3 x4 x5 x1 x2 x3 x4 x5 false (by simp)
        go_wp2
        go_quiet (fail)
        go_wp2
        go_roundw
        case rel => exact ⟨k + 1, by omega, by go_num, Lib.hid (HF.out.drewN _)⟩
        case measure => simp [intOf]; omega
      · obtain rfl : k = n := by omega
        go_wp2
        go_ret
        exact ⟨rfl, HN7.out.trans HF.out⟩
  · have hm' : Kn.mayB X L = false := by rw [Bool.eq_false_iff]; exact hm
    have HM := Lib.hid hm'
    clear hm hm'
    go_enter Try.func4, Try.ntmps4
    go_wp2_with fail
    refine (awake_any _).mono ?_
    rintro e w1 ⟨rfl, hN⟩
    have HN1 : Hid (New w w1) := Lib.hid (((Fr.refl _ w).alloc _).trans hN)
    have HB1 := Lib.hid (hN.blk (heap_alloc_new w (.cells #[.slice a n c, .int .i64 L] 24)) fun x => x)
    obtain ⟨p1, p2, _, _⟩ := box2_c HB1.out
    clear hN
    go_wp2_with fail
    refine (may_any a n c X L _ (New.crs HN1.out HX.out) HN.out lx l1 l2).mono ?_
    rintro e w2 ⟨rfl, hN⟩
    rw [HM.out]
    have HN2 := Lib.hid (HN1.out.trans hN)
    have HB2 := Lib.hid (hN.blk HB1.out fun x => x)
    clear hN p1 p2
    obtain ⟨p1, p2, _, _⟩ := box2_c HB2.out
    go_wp2_with fail
    refine (canon_all a n c X L _ (New.crs HN2.out HX.out) HN.out lx l1 l2).mono ?_
    rintro e w3 ⟨hN, h5⟩
    obtain ⟨_, rfl⟩ := h5.resolve_left (fun h => by have h1 := h.1; rw [HM.out] at h1; cases h1)
    have HN3 := Lib.hid (HN2.out.trans hN)
    clear hN h5
    go_wp2
    go_ret
    exact ⟨rfl, HN3.out.alloc _⟩
end Go.Proofs.Ytgjmjbgicfkojaa
