/- Walks: the law GaussBack. -/
import Derived.Test.YtgjmjbgicfkojaaW56
import Derived.Test.YtgjmjbgicfkojaaW35
import Derived.Test.YtgjmjbgicfkojaaW30
namespace Go.Proofs.Ytgjmjbgicfkojaa
open Go.RowKit

theorem may_blt {X Y : List Kn.Cr} {L : Int} (h : Kn.mayB X L = true) (hl : Y.length = X.length) (hY : Kn.Ok Y) : Kn.mayB Y L = true := by
  unfold Kn.mayB at h ⊢
  rw [hl]
  simp only [Bool.and_eq_true] at h ⊢
  exact ⟨h.1, (Kn.ok_iff Y).2 hY⟩
def absL (K : Nat → Int) (k : Nat) : List Nat := (List.range k).map fun i => (K i).natAbs
theorem absL_succ (K : Nat → Int) (k : Nat) : absL K (k + 1) = absL K k ++ [(K k).natAbs] := by simp [absL, List.range_succ]
structure EvI (wo wr : World) (sb xb n : Nat) (K : Nat → Int) (k : Nat) : Prop where
  fr : Fr (fun j => j = sb) wo wr
  rs : wr.rowIs sb 4 (2 * n + 1) (boolFn fun j => decide (j ∈ absL K k))
  rx : wr.rowIs xb 3 n (intFn K)
theorem EvI.put {wo wr : World} {sb xb n : Nat} {K : Nat → Int} {k m : Nat} (h : EvI wo wr sb xb n K k) (hm : m = (K k).natAbs) : EvI wo (wr.setCell ⟨sb, m, none⟩ (.bool true)) sb xb n K (k + 1) := by
  have hF : Fr (fun j => j = sb) wr (wr.setCell ⟨sb, m, none⟩ (.bool true)) := Fr.setCell (S := fun j => j = sb) (Fr.refl _ wr) (a := ⟨sb, m, none⟩) (.inl rfl) _
  refine ⟨h.fr.trans hF, ?_, hF.row h.rx (rowIs_ne h.rx h.rs (by decide))⟩
  rw [absL_succ, ← hm]
  exact marks_set h.rs m

set_option maxRecDepth 100000 in
set_option maxHeartbeats 4000000 in
theorem gaussBack_any (a : Option Addr) (n c : Nat) (X : List Kn.Cr) (L : Int) (w : World) (hx : CrsAt w a X) (hn : n = X.length) (lx : n ≤ 9223372036854775807) (l1 : -9223372036854775808 ≤ L) (l2 : L ≤ 9223372036854775807) :
    Calls Try.prog 5 #[.agg #[.slice a n c, .int .i64 L]] w (fun e w' => e = .returned (.bool true) ∧ New w w') := by
  have HN := Lib.hid hn
  have HX := Lib.hid hx
  clear hx hn
  by_cases hm : Kn.mayB X L = true
  · have HM := Lib.hid hm
    have HOK := Lib.hid (mayB_ok hm)
    have hn16 : n ≤ 16 := by have := HN.out; have := HOK.out.2; omega
    obtain ⟨hL0, hL1, hL2⟩ : 0 ≤ L ∧ L ≤ 16 ∧ ¬ ((n : Int) + L = 0) := by
      have h := hm
      unfold Kn.mayB at h
      simp only [Bool.and_eq_true, decide_eq_true_eq, Bool.not_eq_true', Bool.and_eq_false_iff, decide_eq_false_iff_not] at h
      have := HN.out
      omega
    have HL2 := Lib.hid hL2
    obtain ⟨np, HNP⟩ : ∃ np, Hid (np = (Kn.strandsL X).length) := ⟨_, Lib.hid rfl⟩
    have hnp : np ≤ 32 := by have := HNP.out; have := strands_few X; unfold Kn.nArcs at this; have := HOK.out.2; omega
    obtain ⟨Y, HY⟩ : ∃ Y, Hid (Y = Kn.builtL X) := ⟨_, Lib.hid rfl⟩
    have hiso := HOK.out.1.built_iso
    rw [← HY.out] at hiso
    have HYN : Hid (n = Y.length) := Lib.hid (by rw [HN.out]; exact hiso.len.symm)
    have HYM : Hid (Kn.mayB Y L = true) := Lib.hid (may_blt HM.out hiso.len (hiso.ok HOK.out.1))
    have HYF : Hid (Kn.formL Y = Kn.formL X) := Lib.hid (hiso.form HOK.out.1).symm
    clear hm hL2 hiso
    go_enter Try.func5, Try.ntmps5
    go_wp2_with fail
    refine (awake_any _).mono ?_
    rintro e w1 ⟨rfl, hN⟩
    have HN1 : Hid (New w w1) := Lib.hid (((Fr.refl _ w).alloc _).trans hN)
    have HB1 := Lib.hid (hN.blk (heap_alloc_new w (.cells #[.slice a n c, .int .i64 L] 24)) fun x => x)
    obtain ⟨p1, p2, _, _⟩ := box2_c HB1.out
    clear hN
    go_wp2_with fail
    refine (gauss_any a n c X L _ (New.crs HN1.out HX.out) HN.out lx l1 l2).mono ?_
    rintro e w2 ⟨hN, h5⟩
    obtain ⟨_, v, p, rfl, hg⟩ := h5.resolve_right (fun h => by have h1 := h.1; rw [HM.out] at h1; cases h1)
    obtain ⟨a2, c2, rfl⟩ := hg.vis.sl
    obtain ⟨a3, c3, rfl, _⟩ := own_shape hg.plus
    have hv := hg.vis
    have hp := hg.plus
    rw [visL_len, ← HNP.out] at hv ⊢
    rw [← HN.out] at hp ⊢
    have HV2 : Hid (Rows OwnVs 0 72 w2 (.slice a2 np c2) (visL X)) := Lib.hid (by obtain ⟨vs, h1, h2⟩ := hv; exact ⟨vs, own0 h1, h2⟩)
    have HP2 := Lib.hid (own0 hp)
    have HN2 := Lib.hid (HN1.out.trans hN)
    have HB2 := Lib.hid (hN.blk HB1.out fun x => x)
    clear hN h5 hg hv hp p1 p2
    obtain ⟨p1, p2, _, _⟩ := box2_c HB2.out
    go_wp2_with fail
    refine (may_any a n c X L _ (New.crs HN2.out HX.out) HN.out lx l1 l2).mono ?_
    rintro e w3 ⟨rfl, hN⟩
    rw [HM.out]
    have HN3 := Lib.hid (HN2.out.trans hN)
    have HB3 := Lib.hid (hN.blk HB2.out fun x => x)
    have HV3 := Lib.hid (HV2.out.new hN fun _ _ h => hN.owns h fun _ _ x => x)
    have HP3 := Lib.hid (hN.owns HP2.out fun _ _ x => x)
    clear hN p1 p2 HV2 HP2
    obtain ⟨p1, p2, _, _⟩ := box2_c HB3.out
    go_wp2_with fail
    refine (gbuild_any n np c2 a2 a3 c3 X L _ HV3.out HP3.out HOK.out.1 HN.out HNP.out hn16 hL0 hL1 HL2.out).mono ?_
    rintro e w4 ⟨sc, rfl, hown, hN⟩
    rw [← HY.out] at hown
    rw [show X.length = Y.length by rw [← HN.out]; exact HYN.out] at hown
    obtain ⟨b1, d1, rfl, hcy⟩ := own_crs hown
    rw [← HYN.out]
    have HN4 := Lib.hid (HN3.out.trans hN)
    have HB4 := Lib.hid ((hN.alloc (.cells #[.slice b1 n d1, .int .i64 L] 24)).blk HB3.out fun x => x)
    have HC4 := Lib.hid (New.crs ((Fr.refl _ w4).alloc (.cells #[.slice b1 n d1, .int .i64 L] 24)) hcy)
    have hr4 := heap_alloc_new w4 (.cells #[.slice b1 n d1, .int .i64 L] 24)
    clear hown hcy hN p1 p2
    obtain ⟨p1, p2, _, _⟩ := box2_c HB4.out
    obtain ⟨q1, q2, _, _⟩ := box2_c hr4
    go_wp2_with fail
    refine (same_any b1 a n n d1 c Y X L _ HC4.out (New.crs (HN4.out.alloc _) HX.out) HYN.out HN.out HYM.out HM.out l1 l2).mono ?_
    rintro e w5 ⟨rfl, hN⟩
    rw [decide_eq_true HYF.out]
    have HN5 := Lib.hid ((HN4.out.alloc _).trans hN)
    have HB5 := Lib.hid (hN.blk HB4.out fun x => x)
    clear hN p1 p2 q1 q2 hr4
    obtain ⟨p1, p2, _, _⟩ := box2_c HB5.out
    go_wp2_with fail
    refine (dowker_any a n c X L _ (New.crs HN5.out HX.out) HN.out HM.out).mono ?_
    rintro e w6 ⟨hN, h6⟩
    have HN6 := Lib.hid (HN5.out.trans hN)
    have HB6 := Lib.hid (hN.blk HB5.out fun x => x)
    clear hN p1 p2
    obtain ⟨p1, p2, _, _⟩ := box2_c HB6.out
    rcases h6 with ⟨h6, rfl⟩ | ⟨hk1, rfl, ⟨hpl, rfl⟩ | ⟨v, rfl, ⟨xb, K, rfl, hrx, hev⟩⟩⟩
    · have H6 := Lib.hid h6
      clear h6
      go_wp2_with fail
      refine (cplanar_any a n c X L _ (New.crs HN6.out HX.out) HN.out lx l1 l2).mono ?_
      rintro e w7 ⟨hN, h7⟩
      obtain ⟨_, rfl⟩ := h7.resolve_right (fun h => by have h1 := h.1; rw [HM.out] at h1; cases h1)
      have HN7 := Lib.hid (HN6.out.trans hN)
      have HB7 := Lib.hid (hN.blk HB6.out fun x => x)
      clear hN p1 p2 h7
      obtain ⟨p1, p2, _, _⟩ := box2_c HB7.out
      obtain ⟨pl, HPL⟩ : ∃ pl, Hid (pl = Kn.planarB X) := ⟨_, Lib.hid rfl⟩
      rw [← HPL.out]
      by_cases h1 : np = 1
      · have h2 : 0 < L := by
          rcases H6.out with h | h
          · exact absurd (by rw [← HNP.out]; exact h1) h
          · exact h
        subst h1
        go_wp2
        go_ret
        exact ⟨rfl, HN7.out⟩
      · have h2 : ((np : Int) != 1) = true := by simp; omega
        go_wp2
        go_ret
        exact ⟨rfl, HN7.out⟩
    · have HPL := Lib.hid hpl
      rw [← HNP.out] at hk1
      subst hk1
      clear hpl
      go_wp2_with fail
      refine (cplanar_any a n c X 0 _ (New.crs HN6.out HX.out) HN.out lx l1 l2).mono ?_
      rintro e w7 ⟨hN, h7⟩
      obtain ⟨_, rfl⟩ := h7.resolve_right (fun h => by have h1 := h.1; rw [HM.out] at h1; cases h1)
      rw [HPL.out]
      have HN7 := Lib.hid (HN6.out.trans hN)
      have HB7 := Lib.hid (hN.blk HB6.out fun x => x)
      clear hN p1 p2 h7
      obtain ⟨p1, p2, _, _⟩ := box2_c HB7.out
      go_wp2
      go_ret
      exact ⟨rfl, HN7.out⟩
    · rw [← HNP.out] at hk1
      subst hk1
      rw [← HN.out] at hrx hev ⊢
      have HRX := Lib.hid hrx
      have HEV := Lib.hid hev
      clear hrx hev
      go_wp2_with fail
      refine (cplanar_any a n c X 0 _ (New.crs HN6.out HX.out) HN.out lx l1 l2).mono ?_
      rintro e w7 ⟨hN, h7⟩
      obtain ⟨_, rfl⟩ := h7.resolve_right (fun h => by have h1 := h.1; rw [HM.out] at h1; cases h1)
      obtain ⟨pl, HPL⟩ : ∃ pl, Hid (pl = Kn.planarB X) := ⟨_, Lib.hid rfl⟩
      rw [← HPL.out]
      have HN7 := Lib.hid (HN6.out.trans hN)
      have HB7 := Lib.hid (hN.blk HB6.out fun x => x)
      have HRX7 := Lib.hid (hN.row HRX.out fun x => x)
      clear hN p1 p2 h7
      obtain ⟨p1, p2, _, _⟩ := box2_c HB7.out
      have hmk : ∀ w, (Instr.makeSlice 31 (.int .i64 (2 * (n : Int) + 1)) (.int .i64 (2 * (n : Int) + 1))).run Try.prog w = .ok (.slice (some ⟨w.heap.size, 0, none⟩) (2 * n + 1) (2 * n + 1)) (w.alloc (.cells (madeCells #[.bool false] (2 * n + 1)) 4)) := fun w => by
        have := run_make_row' (P := Try.prog) 31 4 (.bool false) 1 Try.underlying31 Try.info4 rfl .i64 .i64 (2 * n + 1) (by omega) (by omega) w
        rwa [show (((2 * n + 1 : Nat)) : Int) = 2 * (n : Int) + 1 by omega] at this
      go_wp2
      clear p1 p2
      have HI0 : Hid (EvI (w7.alloc (.cells (madeCells #[.bool false] (2 * n + 1)) 4)) (w7.alloc (.cells (madeCells #[.bool false] (2 * n + 1)) 4)) w7.heap.size xb n K 0) := Lib.hid ⟨Fr.refl _ _, marks_made w7 (2 * n + 1), HRX7.out.alloc _⟩
      have HB8 : Hid ((w7.alloc (.cells (madeCells #[.bool false] (2 * n + 1)) 4)).heap[w.heap.size]? = some (.cells #[.slice a n c, .int .i64 0] 24 (0, 0))) := Lib.hid (((Fr.refl (fun _ => False) w7).alloc _).blk HB7.out fun x => x)
      have HN8 : Hid (New w (w7.alloc (.cells (madeCells #[.bool false] (2 * n + 1)) 4))) := Lib.hid (HN7.out.alloc _)
      obtain ⟨sb, HSB⟩ : ∃ sb, Hid (sb = w7.heap.size) := ⟨_, Lib.hid rfl⟩
      have HSL : Hid (w.heap.size < sb) := Lib.hid (by rw [HSB.out]; exact (Array.getElem?_eq_some_iff.1 HB7.out).1)
      rw [← HSB.out] at HI0 ⊢
      obtain ⟨wo, HWO⟩ : ∃ wo, wo = w7.alloc (.cells (madeCells #[.bool false] (2 * n + 1)) 4) := ⟨_, rfl⟩
      rw [← HWO] at HI0 HB8 HN8 ⊢
      clear HWO HSB
      go_loopw [15] (fun i wr => ∃ k : Nat, k ≤ n ∧ i = .int .i64 k ∧ Hid (EvI wo wr sb xb n K k)) (fun i _ => n - (intOf i).toNat)
      case atStart => exact ⟨0, by omega, rfl, HI0⟩
      case round =>
        obtain ⟨k, hk, rfl, HI⟩ := hrel
        obtain ⟨p1, p2, _, _⟩ := box2_c (HI.out.fr.blk HB8.out (by have := HSL.out; omega))
        by_cases hkn : k < n
        · have hxc := HI.out.rx.cell (i := k) hkn
          simp only [intFn] at hxc
          obtain ⟨⟨e1, e2, e3⟩, e4⟩ := HEV.out k hkn
          obtain ⟨M, HMM⟩ : ∃ M, Hid (M = (K k).natAbs) := ⟨_, Lib.hid rfl⟩
          rw [← HMM.out] at e2 e3
          have hns : Hid (M ∉ absL K k) := Lib.hid fun h => by
            unfold absL at h
            rw [List.mem_map] at h
            obtain ⟨i, hi, hi2⟩ := h
            exact e4 i (List.mem_range.1 hi) (by rw [hi2]; exact HMM.out)
          have hsc := HI.out.rs.cell (i := M) (by omega)
          simp only [boolFn] at hsc
          rw [decide_eq_false hns.out] at hsc
          have hsf := HI.out.rs.frozen M
          have hM2 : (M : Int).tmod 2 = 0 := by rw [Int.tmod_eq_emod_of_nonneg (by omega)]; have := HMM.out; omega
          have i1 : (0 : Int) ≤ (k : Int) := by omega
          have i2 : (k : Int) < (n : Int) := by omega
          have i3 : (2 : Int) ≤ (M : Int) := by omega
          have i4 : (M : Int) ≤ 2 * (n : Int) := by omega
          have i5 : (M : Int) < 2 * (n : Int) + 1 := by omega
          have i6 : (0 : Int) ≤ (M : Int) := by omega
          have HPUT := Lib.hid (HI.out.put HMM.out)
          clear e4
          by_cases hneg : K k < 0
          · have hKM : K k = -(M : Int) := by have := HMM.out; omega
            rw [hKM] at hxc
            clear hneg hKM e1
            have hneg : -(M : Int) < 0 := by omega
            go_wp2
            go_roundw
            case rel => exact ⟨k + 1, by omega, by go_num, HPUT⟩
            case measure => simp [intOf]; omega
          · have hKM : K k = (M : Int) := by have := HMM.out; omega
            rw [hKM] at hxc
            clear hneg hKM e1
            have hneg : ¬ (M : Int) < 0 := by omega
            go_wp2
            go_roundw
            case rel => exact ⟨k + 1, by omega, by go_num, HPUT⟩
            case measure => simp [intOf]; omega
        · obtain rfl : k = n := by omega
          have HFIN : Hid (New w wr) := Lib.hid (HN8.out.next HI.out.fr fun i hi => .inr (by rw [hi]; exact Nat.le_of_lt HSL.out))
          go_wp2
          go_ret
          exact ⟨rfl, HFIN.out⟩
  · have hm' : Kn.mayB X L = false := by rw [Bool.eq_false_iff]; exact hm
    have HM := Lib.hid hm'
    clear hm hm'
    go_enter Try.func5, Try.ntmps5
    go_wp2_with fail
    refine (awake_any _).mono ?_
    rintro e w1 ⟨rfl, hN⟩
    have HN1 : Hid (New w w1) := Lib.hid (((Fr.refl _ w).alloc _).trans hN)
    have HB1 := Lib.hid (hN.blk (heap_alloc_new w (.cells #[.slice a n c, .int .i64 L] 24)) fun x => x)
    obtain ⟨p1, p2, _, _⟩ := box2_c HB1.out
    clear hN
    go_wp2_with fail
    refine (gauss_any a n c X L _ (New.crs HN1.out HX.out) HN.out lx l1 l2).mono ?_
    rintro e w2 ⟨hN, h5⟩
    obtain ⟨_, rfl⟩ := h5.resolve_left (fun h => by have h1 := h.1; rw [HM.out] at h1; cases h1)
    have HN2 := Lib.hid (HN1.out.trans hN)
    have HB2 := Lib.hid (hN.blk HB1.out fun x => x)
    clear hN h5 p1 p2
    obtain ⟨p1, p2, _, _⟩ := box2_c HB2.out
    go_wp2_with fail
    refine (may_any a n c X L _ (New.crs HN2.out HX.out) HN.out lx l1 l2).mono ?_
    rintro e w3 ⟨rfl, hN⟩
    rw [HM.out]
    have HN3 := Lib.hid (HN2.out.trans hN)
    clear hN p1 p2
    go_wp2
    go_ret
    exact ⟨rfl, HN3.out⟩
end Go.Proofs.Ytgjmjbgicfkojaa
