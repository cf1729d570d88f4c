/- Walks: the law MovesSimple. -/
import Derived.Test.YtgjmjbgicfkojaaGreatN19
import Derived.Test.YtgjmjbgicfkojaaGreatW30
import Derived.Test.YtgjmjbgicfkojaaGreatW35
namespace Go.Proofs.YtgjmjbgicfkojaaGreat
open Go.RowKit

set_option maxRecDepth 100000 in
theorem alike_any (a a' : Option Addr) (n c c' : Nat) (X : List Kn.Cr) (L : Int) (w : World) (hx : CrsAt w a X) (hy : CrsAt w a' X) (hn : n = X.length) (hm : Kn.mayB X L = true) (l1 : -9223372036854775808 ≤ L) (l2 : L ≤ 9223372036854775807) :
    Calls Tryz.prog 8 #[.agg #[.slice a n c, .int .i64 L], .agg #[.slice a' n c', .int .i64 L]] w (fun e w' => e = .returned (.bool true) ∧ New w w') := by
  have HN := Lib.hid hn
  have HX := Lib.hid hx
  have HY := Lib.hid hy
  have HM := Lib.hid hm
  clear hx hy hn hm
  go_enter Tryz.func8, Tryz.ntmps8
  go_wp2_with fail
  refine (same_any a a' n n c c' X X L _ (New.crs (((Fr.refl _ w).alloc _).alloc _) HX.out) (New.crs (((Fr.refl _ w).alloc _).alloc _) HY.out) HN.out HN.out HM.out HM.out l1 l2).mono ?_
  rintro e w1 ⟨rfl, hF⟩
  rw [decide_eq_true rfl]
  have HF := Lib.hid ((((Fr.refl _ w).alloc _).alloc _).trans hF)
  clear hF
  go_wp2
  go_ret
  exact ⟨rfl, HF.out⟩
set_option maxRecDepth 100000 in
set_option maxHeartbeats 8000000 in
theorem msimple_any (a : Option Addr) (n c : Nat) (X : List Kn.Cr) (L : Int) (w : World) (hx : CrsAt w a X) (hn : n = X.length) (lx : n ≤ 9223372036854775807) (l1 : -9223372036854775808 ≤ L) (l2 : L ≤ 9223372036854775807) :
    Calls Tryz.prog 4 #[.agg #[.slice a n c, .int .i64 L]] w (fun e w' => e = .returned (.bool true) ∧ New w w') := by
  have HX := Lib.hid hx
  have HN := Lib.hid hn
  clear hx hn
  go_enter Tryz.func4, Tryz.ntmps4
  go_wp2_with fail
  have HN0 : Hid (New w (w.alloc (.cells #[.slice a n c, .int .i64 L] 24))) := Lib.hid ((Fr.refl _ w).alloc _)
  have HB0 := Lib.hid (heap_alloc_new w (.cells #[.slice a n c, .int .i64 L] 24))
  obtain ⟨B1, HB1⟩ : ∃ B, Hid (B = w.heap.size) := ⟨_, Lib.hid rfl⟩
  rw [← HB1.out] at HB0 ⊢
  refine (awake_any _).mono ?_
  rintro e w1 ⟨rfl, hN⟩
  have HN1 := Lib.hid (HN0.out.trans hN)
  have HM1 := Lib.hid (hN.blk HB0.out fun x => x)
  clear hN HB0
  obtain ⟨p0, p1, _, _⟩ := box2_c HM1.out
  go_wp2_with fail
  clear p0 p1
  refine (simple_any a n c X L _ (New.crs HN1.out HX.out) HN.out lx l1 l2).mono ?_
  rintro e w2 ⟨hN, h5⟩
  rcases h5 with ⟨hg, ms, Y, N, ya, yc, v, rfl, hyc, hv, hrun, hgy, hlen, hst⟩ | ⟨hg, rfl⟩
  · have HGX := Lib.hid hg
    have HGY := Lib.hid hgy
    have HRU := Lib.hid hrun
    have HST := Lib.hid hst
    have HLE := Lib.hid hlen
    obtain ⟨ny, HNY⟩ : ∃ ny, Hid (ny = Y.length) := ⟨_, Lib.hid rfl⟩
    obtain ⟨lv, cv, rfl, _⟩ := own_shape2 hv
    obtain ⟨nl, HNL⟩ : ∃ nl, Hid (nl = ms.length) := ⟨_, Lib.hid rfl⟩
    have hn16 : n ≤ 16 := by rw [HN.out]; exact (mayB_ok hg.1).2
    have hny : ny ≤ n := by have := HNY.out; have := HN.out; omega
    have hnl : nl ≤ 16 := by have := HNL.out; have := HN.out; omega
    have hNb : 0 ≤ N ∧ N ≤ 16 := by
      have h2 := hgy.1
      unfold Kn.mayB at h2
      simp only [Bool.and_eq_true, decide_eq_true_eq] at h2
      exact ⟨h2.1.1.1.2, h2.1.1.2⟩
    have hn2 := hN.alloc (.cells #[.slice ya ny yc, .int .i64 N] 24)
    have HN2 := Lib.hid (HN1.out.trans hn2)
    have HM2 := Lib.hid (hn2.blk HM1.out fun x => x)
    obtain ⟨B3, HB3⟩ : ∃ B, Hid (B = w2.heap.size) := ⟨_, Lib.hid rfl⟩
    have HA2 : Hid ((w2.alloc (.cells #[.slice ya ny yc, .int .i64 N] 24)).heap[B3]? = some (.cells #[.slice ya ny yc, .int .i64 N] 24 (0, 0))) := Lib.hid (by rw [HB3.out]; exact heap_alloc_new w2 _)
    have HV2 := Lib.hid (((Fr.refl (fun _ => False) w2).alloc (.cells #[.slice ya ny yc, .int .i64 N] 24)).owns hv fun _ _ x => x)
    have HY2 := Lib.hid (New.crs ((Fr.refl (fun _ => False) w2).alloc (.cells #[.slice ya ny yc, .int .i64 N] 24)) hyc)
    rw [← HNY.out, ← HNL.out]
    clear hN hg hgy hrun hst hlen hv hyc hn2
    obtain ⟨p0, p1, _, _⟩ := box2_c HM2.out
    go_wp2_with fail
    clear p0 p1
    rw [← HB3.out]
    refine (cplanar_any a n c X L _ (New.crs HN2.out HX.out) HN.out lx l1 l2).mono ?_
    rintro e w3 ⟨hN, h5⟩
    obtain ⟨_, rfl⟩ := h5.resolve_right (fun h => by have h1 := h.1; rw [HGX.out.1] at h1; cases h1)
    rw [HGX.out.2]
    have HN3 := Lib.hid (HN2.out.trans hN)
    have HM3 := Lib.hid (hN.blk HM2.out fun x => x)
    have HA3 := Lib.hid (hN.blk HA2.out fun x => x)
    have HV3 := Lib.hid (hN.owns HV2.out fun _ _ x => x)
    have HY3 := Lib.hid (New.crs hN HY2.out)
    clear hN h5
    obtain ⟨p0, p1, _, _⟩ := box2_c HM3.out
    go_wp2_with fail
    clear p0 p1
    --BODY
    have hv3 : w3.ownsRow w1.heap.size 28 8 (.slice lv nl cv) ms.length (mvCells ms) := by rw [HNL.out]; exact HV3.out
    refine (row_any a n c w1.heap.size _ X Y L N ms _ (New.crs HN3.out HX.out) HN.out HGX.out hv3 (by rw [← HNL.out]; exact hnl) HRU.out).mono ?_
    rintro e w4 ⟨hN, a2, c2, rfl, hc2⟩
    rw [← HNY.out, ← HNL.out]
    have hn5 := hN.alloc (.cells #[.slice a2 ny c2, .int .i64 N] 24)
    have HN5 := Lib.hid (HN3.out.trans hn5)
    have HM5 := Lib.hid (hn5.blk HM3.out fun x => x)
    have HA5 := Lib.hid (hn5.blk HA3.out fun x => x)
    have HY5 := Lib.hid (New.crs hn5 HY3.out)
    have HZ5 := Lib.hid (New.crs ((Fr.refl (fun _ => False) w4).alloc (.cells #[.slice a2 ny c2, .int .i64 N] 24)) hc2)
    have HB5 := Lib.hid (heap_alloc_new w4 (.cells #[.slice a2 ny c2, .int .i64 N] 24))
    clear hN hn5 hc2 hv3
    obtain ⟨p0, p1, _, _⟩ := box2_c HM5.out
    obtain ⟨q0, q1, _, _⟩ := box2_c HA5.out
    obtain ⟨r0, r1, _, _⟩ := box2_c HB5.out
    have hgt : ¬ (n : Int) < (ny : Int) := by omega
    have hgd : decide (n < ny) = false := decide_eq_false (by omega)
    have hge : decide ((n : Int) < (ny : Int)) = false := decide_eq_false (by omega)
    go_wp2_with fail
    clear p0 p1 q0 q1 r0 r1
    refine (alike_any ya a2 ny yc c2 Y N _ HY5.out HZ5.out HNY.out HGY.out.1 (by omega) (by omega)).mono ?_
    rintro e w7 ⟨rfl, hN⟩
    have HN7 := Lib.hid (HN5.out.trans hN)
    have HM7 := Lib.hid (hN.blk HM5.out fun x => x)
    have HA7 := Lib.hid (hN.blk HA5.out fun x => x)
    have HY7 := Lib.hid (New.crs hN HY5.out)
    clear hN
    obtain ⟨p0, p1, _, _⟩ := box2_c HM7.out
    obtain ⟨q0, q1, _, _⟩ := box2_c HA7.out
    go_wp2_with fail
    clear p0 p1 q0 q1
    go_loopw [11] (fun i wr => ∃ k : Nat, k ≤ ny ∧ i = .int .i64 k ∧ Hid (New w7 wr)) (fun i _ => ny - (intOf i).toNat)
    case atStart => exact ⟨0, by omega, rfl, Lib.hid (Fr.refl _ _)⟩
    case round =>
      obtain ⟨k, hk, rfl, HNr⟩ := hrel
      obtain ⟨d0, d1, _, _⟩ := box2_c (HNr.out.blk HA7.out fun x => x)
      by_cases hkn : k < ny
      · have i1 : (0 : Int) ≤ (k : Int) := by omega
        have i2 : (k : Int) < (ny : Int) := by omega
        have hdm := do_mv (.un k) ya ny yc Y N _ (New.crs HNr.out HY7.out) HNY.out (by omega) (by omega) (by omega)
        obtain ⟨o, HO⟩ : ∃ o, Hid (doM Y N (.un k) = o) := ⟨_, Lib.hid rfl⟩
        rw [HO.out] at hdm
        have HDM := Lib.hid hdm
        clear hdm
        go_wp2_with fail
        clear d0 d1
        refine HDM.out.mono ?_
        rintro e w8 ⟨hN, hM⟩
        cases o with
        | ok A B =>
          have h1 := HST.out.1 k (by rw [← HNY.out]; exact hkn)
          rw [HO.out] at h1
          exact h1.elim
        | no x =>
          obtain rfl := hM
          rcases un_refused HGY.out (by rw [← HNY.out]; exact hkn) HO.out with rfl | rfl
          · skip
            have HN9 : Hid (New w7 (w8.alloc (.cells #[.slice none 0 0, .int .i64 0] 24))) := Lib.hid ((HNr.out.trans hN).alloc _)
            go_wp2_with fail
            obtain ⟨w9, HW9⟩ : ∃ w9, Hid (w9 = w8.alloc (.cells #[.slice none 0 0, .int .i64 0] 24)) := ⟨_, Lib.hid rfl⟩
            rw [← HW9.out] at HN9 ⊢
            clear HW9 hN
            go_loopw [14] (fun i wr => ∃ j : Nat, j ≤ k ∧ i = .int .i64 j ∧ Hid (New w7 wr)) (fun i _ => k - (intOf i).toNat)
            case atStart => exact ⟨0, by omega, rfl, HN9⟩
            case round =>
              obtain ⟨j, hj, rfl, HNs⟩ := hrel
              by_cases hjk : j < k
              · obtain ⟨d0, d1, _, _⟩ := box2_c (HNs.out.blk HA7.out fun x => x)
                have j1 : (0 : Int) ≤ (j : Int) := by omega
                have j2 : (j : Int) < (k : Int) := by omega
                have hdm := do_mv (.pu j k) ya ny yc Y N _ (New.crs HNs.out HY7.out) HNY.out (by omega) (by omega) (by omega)
                obtain ⟨o, HO⟩ : ∃ o, Hid (doM Y N (.pu j k) = o) := ⟨_, Lib.hid rfl⟩
                rw [HO.out] at hdm
                have HDM := Lib.hid hdm
                clear hdm
                go_wp2_with fail
                clear d0 d1
                refine HDM.out.mono ?_
                rintro e w10 ⟨hN, hM⟩
                cases o with
                | ok A B =>
                  have h1 := HST.out.2 j k hjk (by rw [← HNY.out]; exact hkn)
                  rw [HO.out] at h1
                  exact h1.elim
                | no x =>
                  obtain rfl := hM
                  rcases pu_refused HGY.out hjk (by rw [← HNY.out]; exact hkn) HO.out with rfl | rfl
                  · have HNt : Hid (New w7 (w10.alloc (.cells #[.slice none 0 0, .int .i64 0] 24))) := Lib.hid ((HNs.out.trans hN).alloc _)
                    go_wp2
                    go_roundw
                    case rel => exact ⟨j + 1, by omega, by go_num, HNt⟩
                    case measure => simp [intOf]; omega
                  · have HNt : Hid (New w7 (w10.alloc (.cells #[.slice none 0 0, .int .i64 0] 24))) := Lib.hid ((HNs.out.trans hN).alloc _)
                    go_wp2
                    go_roundw
                    case rel => exact ⟨j + 1, by omega, by go_num, HNt⟩
                    case measure => simp [intOf]; omega
              · obtain rfl : k = j := by omega
                go_wp2
                go_roundw
                case rel => exact ⟨k + 1, by omega, by go_num, HNs⟩
                case measure => simp [intOf]; omega

          · skip
            have HN9 : Hid (New w7 (w8.alloc (.cells #[.slice none 0 0, .int .i64 0] 24))) := Lib.hid ((HNr.out.trans hN).alloc _)
            go_wp2_with fail
            obtain ⟨w9, HW9⟩ : ∃ w9, Hid (w9 = w8.alloc (.cells #[.slice none 0 0, .int .i64 0] 24)) := ⟨_, Lib.hid rfl⟩
            rw [← HW9.out] at HN9 ⊢
            clear HW9 hN
            go_loopw [14] (fun i wr => ∃ j : Nat, j ≤ k ∧ i = .int .i64 j ∧ Hid (New w7 wr)) (fun i _ => k - (intOf i).toNat)
            case atStart => exact ⟨0, by omega, rfl, HN9⟩
            case round =>
              obtain ⟨j, hj, rfl, HNs⟩ := hrel
              by_cases hjk : j < k
              · obtain ⟨d0, d1, _, _⟩ := box2_c (HNs.out.blk HA7.out fun x => x)
                have j1 : (0 : Int) ≤ (j : Int) := by omega
                have j2 : (j : Int) < (k : Int) := by omega
                have hdm := do_mv (.pu j k) ya ny yc Y N _ (New.crs HNs.out HY7.out) HNY.out (by omega) (by omega) (by omega)
                obtain ⟨o, HO⟩ : ∃ o, Hid (doM Y N (.pu j k) = o) := ⟨_, Lib.hid rfl⟩
                rw [HO.out] at hdm
                have HDM := Lib.hid hdm
                clear hdm
                go_wp2_with fail
                clear d0 d1
                refine HDM.out.mono ?_
                rintro e w10 ⟨hN, hM⟩
                cases o with
                | ok A B =>
                  have h1 := HST.out.2 j k hjk (by rw [← HNY.out]; exact hkn)
                  rw [HO.out] at h1
                  exact h1.elim
                | no x =>
                  obtain rfl := hM
                  rcases pu_refused HGY.out hjk (by rw [← HNY.out]; exact hkn) HO.out with rfl | rfl
                  · have HNt : Hid (New w7 (w10.alloc (.cells #[.slice none 0 0, .int .i64 0] 24))) := Lib.hid ((HNs.out.trans hN).alloc _)
                    go_wp2
                    go_roundw
                    case rel => exact ⟨j + 1, by omega, by go_num, HNt⟩
                    case measure => simp [intOf]; omega
                  · have HNt : Hid (New w7 (w10.alloc (.cells #[.slice none 0 0, .int .i64 0] 24))) := Lib.hid ((HNs.out.trans hN).alloc _)
                    go_wp2
                    go_roundw
                    case rel => exact ⟨j + 1, by omega, by go_num, HNt⟩
                    case measure => simp [intOf]; omega
              · obtain rfl : k = j := by omega
                go_wp2
                go_roundw
                case rel => exact ⟨k + 1, by omega, by go_num, HNs⟩
                case measure => simp [intOf]; omega

      · obtain rfl : ny = k := by omega
        go_wp2
        go_ret
        exact ⟨rfl, HN7.out.trans HNr.out⟩

  · skip
    obtain ⟨m, HMy⟩ : ∃ m, Hid (Kn.mayB X L = m) := ⟨_, Lib.hid rfl⟩
    obtain ⟨q, HPl⟩ : ∃ q, Hid (Kn.planarB X = q) := ⟨_, Lib.hid rfl⟩
    have hnot : ¬ (m = true ∧ q = true) := fun h => hg ⟨by rw [HMy.out]; exact h.1, by rw [HPl.out]; exact h.2⟩
    have hn2 := hN.alloc (.cells #[.slice none 0 0, .int .i64 0] 24)
    have HN2 := Lib.hid (HN1.out.trans hn2)
    have HM2 := Lib.hid (hn2.blk HM1.out fun x => x)
    clear hN hn2 hg
    obtain ⟨p0, p1, _, _⟩ := box2_c HM2.out
    go_wp2_with fail
    clear p0 p1
    refine (cplanar_any a n c X L _ (New.crs HN2.out HX.out) HN.out lx l1 l2).mono ?_
    rintro e w3 ⟨hN, h5⟩
    rw [HMy.out, HPl.out] at h5
    have HN3 := Lib.hid (HN2.out.trans hN)
    clear hN
    rcases h5 with ⟨rfl, rfl⟩ | ⟨rfl, rfl⟩
    · obtain rfl : q = false := by cases q; rfl; exact absurd ⟨rfl, rfl⟩ hnot
      go_wp2
      go_ret
      exact ⟨rfl, HN3.out⟩
    · go_wp2
      go_ret
      exact ⟨rfl, HN3.out⟩

end Go.Proofs.YtgjmjbgicfkojaaGreat
