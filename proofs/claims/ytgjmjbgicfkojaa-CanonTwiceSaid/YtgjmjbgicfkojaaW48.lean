/- Walks: the law CanonTwice. -/
import Derived.Test.YtgjmjbgicfkojaaW47
namespace Go.Proofs.Ytgjmjbgicfkojaa
open Go.RowKit

theorem Kn.strands_some {X : List Kn.Cr} (h : Kn.Ok X) (hn : 0 < X.length) : 1 ≤ (Kn.strandsL X).length := by
  rcases Nat.eq_zero_or_pos (Kn.strandsL X).length with e | e
  · have h1 := (Kn.strands_perm h).length_eq
    rw [List.length_eq_zero_iff.1 e] at h1
    simp [Kn.arcs_length] at h1
    unfold Kn.nArcs at h1
    omega
  · exact e
/- a sum in a box -/
def SumBox (w0 : World) (S : List Kn.Cr) (L2 : Int) (n : Nat) (s : Value) (wx : World) : Prop := ∃ B a c, s = .pointer (some ⟨B, 0, none⟩) ∧ New w0 wx ∧ wx.heap[B]? = some (.cells #[.slice a n c, .int .i64 L2] 24 (0, 0)) ∧ CrsAt wx a S
theorem sumBox_old {w0 w13 : World} {S : List Kn.Cr} {L2 : Int} {a : Option Addr} {c n B base : Nat} (hN : New w0 w13) (hb : w13.heap[B]? = some (.cells #[.slice none 0 0, .int .i64 0] 24 (0, 0))) (hB : w0.heap.size ≤ B) (ho : w13.ownsRow base 42 5 (.slice a n c) n (crCells S)) (hn : n = S.length) :
    SumBox w0 S L2 n (.pointer (some ⟨B, 0, none⟩)) ((w13.setCell ⟨B, 0, none⟩ (.slice a n c)).setCell ⟨B, 1, none⟩ (.int .i64 L2)) := by
  subst hn
  have hF : Fr (fun k => k = B) w13 ((w13.setCell ⟨B, 0, none⟩ (.slice a S.length c)).setCell ⟨B, 1, none⟩ (.int .i64 L2)) := by refine Fr.setCell (Fr.setCell (Fr.refl _ w13) ?_ _) ?_ _ <;> exact .inl rfl
  have ho' := hF.owns ho fun k hk e => blk_not_own hb ho (by decide) (e ▸ hk)
  obtain ⟨a', c', e, hx⟩ := CrsAt.of_owns ho'
  cases e
  exact ⟨B, a, c, rfl, hN.next hF fun i hi => .inr (by rw [hi]; exact hB), (box2_set (box2_set hb (.slice a S.length c)).1 (.int .i64 L2)).2, hx⟩
theorem sumBox_new {w0 w13 : World} {S : List Kn.Cr} {L2 : Int} {a : Option Addr} {c n base : Nat} (hN : New w0 w13) (ho : w13.ownsRow base 42 5 (.slice a n c) n (crCells S)) (hn : n = S.length) :
    SumBox w0 S L2 n (.pointer (some ⟨w13.heap.size, 0, none⟩)) (w13.alloc (.cells #[.slice a n c, .int .i64 L2] 24)) := by
  subst hn
  have hF : New w13 (w13.alloc (.cells #[.slice a S.length c, .int .i64 L2] 24)) := (Fr.refl _ w13).alloc _
  have ho' := hF.owns ho fun _ _ x => x
  obtain ⟨a', c', e, hx⟩ := CrsAt.of_owns ho'
  cases e
  exact ⟨_, a, c, rfl, hN.trans hF, heap_alloc_new _ _, hx⟩
theorem two_of {W : World} {B t : Nat} {a b : Value} (h : W.heap[B]? = some (.cells #[a, b] t (0, 0))) : W.cell? ⟨B, 0, none⟩ = some a ∧ W.cell? ⟨B, 1, none⟩ = some b := ⟨cell_of_row _ _ 0 _ t (0, 0) h, cell_of_row _ _ 1 _ t (0, 0) h⟩
theorem sum_own (a : Option Addr) (n c x y m : Nat) (X : List Kn.Cr) (L : Int) (w : World) (hx : CrsAt w a X) (hn : n = X.length) (hm : Kn.mayB X L = true) (h8 : n ≤ 8) (hL : L ≤ 8) (hx1 : 1 ≤ x) (hx2 : x ≤ 2 * n) (hy1 : 1 ≤ y) (hy2 : y ≤ 2 * n) (hmm : m = (Kn.sumL X x y).length) :
    Calls Try.prog 22 #[.agg #[.slice a n c, .int .i64 L], .int .i64 (x : Nat), .agg #[.slice a n c, .int .i64 L], .int .i64 (y : Nat)] w (fun e w' => ∃ a' c', e = .returned (.tuple #[.agg #[.slice a' m c', .int .i64 (L + L)], .int .i64 0]) ∧ w'.ownsRow 0 42 5 (.slice a' m c') m (crCells (Kn.sumL X x y)) ∧ New w w') := by
  refine (sum_any a n c x y X L w hx hn hm h8 hL hx1 hx2 hy1 hy2).mono ?_
  rintro e w' ⟨sc, rfl, ho, hF⟩
  obtain ⟨a', c', rfl, _⟩ := CrsAt.of_owns ho
  subst hmm
  exact ⟨a', c', rfl, own0 ho, hF⟩
set_option maxRecDepth 100000 in
set_option maxHeartbeats 4000000 in
theorem canonTwice_any (a : Option Addr) (n c : Nat) (part px py : Int) (X : List Kn.Cr) (L : Int) (w : World) (hx : CrsAt w a X) (hn : n = X.length) (lx : n ≤ 9223372036854775807) (l1 : -9223372036854775808 ≤ L) (l2 : L ≤ 9223372036854775807)
    (a1 : -9223372036854775808 ≤ part) (a2 : part ≤ 9223372036854775807) (b1 : -9223372036854775808 ≤ px) (b2 : px ≤ 9223372036854775807) (c1 : -9223372036854775808 ≤ py) (c2 : py ≤ 9223372036854775807) :
    Calls Try.prog 6 #[.agg #[.slice a n c, .int .i64 L], .int .i64 part, .int .i64 px, .int .i64 py] w (fun e w' => e = .returned (.bool true) ∧ New w w') := by
  have HN := Lib.hid hn
  have HX := Lib.hid hx
  clear hx hn
  by_cases hm : Kn.mayB X L = true
  · have HM := Lib.hid hm
    have HOK := Lib.hid (mayB_ok hm)
    have hn16 : n ≤ 16 := by have := HN.out; have := HOK.out.2; omega
    clear hm
    obtain ⟨pl, HPL⟩ : ∃ pl, Hid (pl = Kn.planarB X) := ⟨_, Lib.hid rfl⟩
    go_enter Try.func6, Try.ntmps6
    go_wp2_with fail
    refine (awake_any _).mono ?_
    rintro e w1 ⟨rfl, hN⟩
    have HN1 : Hid (New w w1) := Lib.hid (((Fr.refl _ w).alloc _).trans hN)
    have HB1 := Lib.hid (hN.blk (heap_alloc_new w (.cells #[.slice a n c, .int .i64 L] 24)) fun x => x)
    obtain ⟨p1, p2, _, _⟩ := box2_c HB1.out
    clear hN
    go_wp2_with fail
    refine (may_any a n c X L _ (New.crs HN1.out HX.out) HN.out lx l1 l2).mono ?_
    rintro e w2 ⟨rfl, hN⟩
    rw [HM.out]
    have HN2 := Lib.hid (HN1.out.trans hN)
    have HB2 := Lib.hid (hN.blk HB1.out fun x => x)
    clear hN p1 p2
    obtain ⟨p1, p2, _, _⟩ := box2_c HB2.out
    go_wp2_with fail
    refine (cplanar_yes a n c X L _ (New.crs HN2.out HX.out) HN.out HM.out lx l1 l2 pl HPL.out).mono ?_
    rintro e w3 ⟨rfl, hN⟩
    have HN3 := Lib.hid (HN2.out.trans hN)
    have HB3 := Lib.hid (hN.blk HB2.out fun x => x)
    clear hN p1 p2
    obtain ⟨p1, p2, _, _⟩ := box2_c HB3.out
    go_wp2_with fail
    refine (mirror_any a n c X L _ (New.crs HN3.out HX.out) HN.out lx l1 l2 HM.out).mono ?_
    rintro e w4 hG
    obtain ⟨M, HMe⟩ : ∃ M, Hid (M = Kn.mirL X) := ⟨_, Lib.hid rfl⟩
    rw [← HMe.out] at hG
    have HML : Hid (n = M.length) := Lib.hid (by rw [HMe.out]; unfold Kn.mirL; rw [List.length_map]; exact HN.out)
    have HMK : Hid (Kn.Ok M) := Lib.hid (by rw [HMe.out]; exact (Kn.mir_tur X).ok HOK.out.1)
    have HMM : Hid (Kn.mayB M L = true) := Lib.hid (may_mk HM.out (by rw [← HML.out, ← HN.out]) HMK.out)
    have HMP : Hid (pl = Kn.planarB M) := Lib.hid (by rw [HPL.out, HMe.out, (Kn.mir_tur X).planar HOK.out.1])
    have HMX : Hid (Kn.mirL M = X) := Lib.hid (by rw [HMe.out, Kn.mir_mir])
    obtain ⟨a4, c4, rfl, hx4, hN⟩ := gaveMir_crs hG HML.out
    have hN4 := hN.alloc (.cells #[.slice a4 n c4, .int .i64 L] 24)
    have HN4 := Lib.hid (HN3.out.trans hN4)
    have HB4 := Lib.hid (hN4.blk HB3.out fun x => x)
    have HC4 := Lib.hid (New.crs ((Fr.refl _ w4).alloc (.cells #[.slice a4 n c4, .int .i64 L] 24)) hx4)
    have HS4 := Lib.hid (heap_alloc_new w4 (.cells #[.slice a4 n c4, .int .i64 L] 24))
    clear hN hN4 hG hx4 p1 p2
    obtain ⟨p1, p2, _, _⟩ := box2_c HS4.out
    go_wp2_with fail
    refine (mirror_any a4 n c4 M L _ HC4.out HML.out lx l1 l2 HMM.out).mono ?_
    rintro e w5 hG
    rw [HMX.out] at hG
    obtain ⟨a5, c5, rfl, hx5, hN⟩ := gaveMir_crs hG HN.out
    have hN5 := hN.alloc (.cells #[.slice a5 n c5, .int .i64 L] 24)
    have HN5 := Lib.hid (HN4.out.trans hN5)
    have HB5 := Lib.hid (hN5.blk HB4.out fun x => x)
    have HC5 := Lib.hid (New.crs hN5 HC4.out)
    have HS5 := Lib.hid (hN5.blk HS4.out fun x => x)
    have HD5 := Lib.hid (New.crs ((Fr.refl _ w5).alloc (.cells #[.slice a5 n c5, .int .i64 L] 24)) hx5)
    have HT5 := Lib.hid (heap_alloc_new w5 (.cells #[.slice a5 n c5, .int .i64 L] 24))
    clear hN hN5 hG hx5 p1 p2
    obtain ⟨p1, p2, _, _⟩ := box2_c HS5.out
    go_wp2_with fail
    refine (cplanar_yes a4 n c4 M L _ HC5.out HML.out HMM.out lx l1 l2 pl HMP.out).mono ?_
    rintro e w6 ⟨rfl, hN⟩
    have HN6 := Lib.hid (HN5.out.trans hN)
    have HB6 := Lib.hid (hN.blk HB5.out fun x => x)
    have HD6 := Lib.hid (New.crs hN HD5.out)
    have HT6 := Lib.hid (hN.blk HT5.out fun x => x)
    clear hN p1 p2
    obtain ⟨p1, p2, _, _⟩ := box2_c HB6.out
    obtain ⟨q1, q2, _, _⟩ := box2_c HT6.out
    go_wp2_with fail
    refine (alike_any a5 a n c5 c X L _ HD6.out (New.crs HN6.out HX.out) HN.out HM.out l1 l2).mono ?_
    rintro e w7 ⟨rfl, hN⟩
    have HN7 := Lib.hid (HN6.out.trans hN)
    have HB7 := Lib.hid (hN.blk HB6.out fun x => x)
    clear hN p1 p2 q1 q2
    obtain ⟨p1, p2, _, _⟩ := box2_c HB7.out
    by_cases h0 : n = 0
    · have h0' : (n : Int) = 0 := by omega
      go_wp2
      go_ret
      exact ⟨rfl, HN7.out⟩
    have h0' : ¬ (n : Int) = 0 := by omega
    obtain ⟨np, HNP⟩ : ∃ np, Hid (np = (Kn.strandsL X).length) := ⟨_, Lib.hid rfl⟩
    have hnp1 : 1 ≤ np := by rw [HNP.out]; exact Kn.strands_some HOK.out.1 (by have := HN.out; omega)
    have hnp2 : np ≤ 32 := by have := HNP.out; have h1 := strands_few X; have h2 := HN.out; unfold Kn.nArcs at h1; omega
    have hnp0 : ¬ (np : Int) = 0 := by omega
    go_wp2_with fail
    refine (gstrands_lit a n c X L _ (New.crs HN7.out HX.out) HN.out HM.out np HNP.out lx l1 l2).mono ?_
    rintro e w8 ⟨_, _, rfl, hN⟩
    have HN8 := Lib.hid (HN7.out.trans hN)
    have HB8 := Lib.hid (hN.blk HB7.out fun x => x)
    clear hN p1 p2
    obtain ⟨p1, p2, _, _⟩ := box2_c HB8.out
    obtain ⟨k, hk, hpk⟩ := picked_nat part np a1 a2 hnp1 (by omega)
    have HPK := Lib.hid hpk
    clear hpk
    go_wp2_with fail
    refine (HPK.out _).mono ?_
    rintro e w' ⟨rfl, rfl⟩
    go_wp2_with fail
    refine (reverse_any a n c k X L _ (New.crs HN8.out HX.out) HN.out lx l1 l2 HM.out (by rw [← HNP.out]; exact hk)).mono ?_
    rintro e w9 hG
    obtain ⟨R, HRe⟩ : ∃ R, Hid (R = Kn.revL (Kn.onPart X k) X) := ⟨_, Lib.hid rfl⟩
    have HRS : Hid (np = (Kn.strandsL R).length) := Lib.hid (by rw [HRe.out, HOK.out.1.rev_len, HNP.out])
    have HRL : Hid (n = R.length) := Lib.hid (by rw [HRe.out]; unfold Kn.revL; rw [List.length_map]; exact HN.out)
    have HRK : Hid (Kn.Ok R) := Lib.hid (by rw [HRe.out]; exact HOK.out.1.rev_ok k)
    have HRM : Hid (Kn.mayB R L = true) := Lib.hid (may_mk HM.out (by rw [← HRL.out, ← HN.out]) HRK.out)
    have HRR : Hid (Kn.revL (Kn.onPart R k) R = X) := Lib.hid (by rw [HRe.out]; exact HOK.out.1.rev_rev k)
    rw [← HRe.out] at hG
    obtain ⟨a9, c9, rfl, hx9, hN⟩ := gaveMir_crs hG HRL.out
    have hN9 := hN.alloc (.cells #[.slice a9 n c9, .int .i64 L] 24)
    have HN9 := Lib.hid (HN8.out.trans hN9)
    have HB9 := Lib.hid (hN9.blk HB8.out fun x => x)
    have HC9 := Lib.hid (New.crs ((Fr.refl _ w9).alloc (.cells #[.slice a9 n c9, .int .i64 L] 24)) hx9)
    have HS9 := Lib.hid (heap_alloc_new w9 (.cells #[.slice a9 n c9, .int .i64 L] 24))
    clear hN hN9 hG hx9 p1 p2
    obtain ⟨p1, p2, _, _⟩ := box2_c HS9.out
    go_wp2_with fail
    refine (gstrands_lit a9 n c9 R L _ HC9.out HRL.out HRM.out np HRS.out lx l1 l2).mono ?_
    rintro e w10 ⟨_, _, rfl, hN⟩
    have HN10 := Lib.hid (HN9.out.trans hN)
    have HB10 := Lib.hid (hN.blk HB9.out fun x => x)
    have HC10 := Lib.hid (New.crs hN HC9.out)
    have HS10 := Lib.hid (hN.blk HS9.out fun x => x)
    clear hN p1 p2
    obtain ⟨p1, p2, _, _⟩ := box2_c HS10.out
    go_wp2_with fail
    refine (reverse_any a9 n c9 k R L _ HC10.out HRL.out lx l1 l2 HRM.out (by rw [← HRS.out]; exact hk)).mono ?_
    rintro e w11 hG
    rw [HRR.out] at hG
    obtain ⟨a11, c11, rfl, hx11, hN⟩ := gaveMir_crs hG HN.out
    have hN11 := hN.alloc (.cells #[.slice a11 n c11, .int .i64 L] 24)
    have HN11 := Lib.hid (HN10.out.trans hN11)
    have HB11 := Lib.hid (hN11.blk HB10.out fun x => x)
    have HC11 := Lib.hid (New.crs ((Fr.refl _ w11).alloc (.cells #[.slice a11 n c11, .int .i64 L] 24)) hx11)
    have HS11 := Lib.hid (heap_alloc_new w11 (.cells #[.slice a11 n c11, .int .i64 L] 24))
    clear hN hN11 hG hx11 p1 p2
    obtain ⟨p1, p2, _, _⟩ := box2_c HB11.out
    obtain ⟨q1, q2, _, _⟩ := box2_c HS11.out
    go_wp2_with fail
    refine (alike_any a11 a n c11 c X L _ HC11.out (New.crs HN11.out HX.out) HN.out HM.out l1 l2).mono ?_
    rintro e w12 ⟨rfl, hN⟩
    have HN12 := Lib.hid (HN11.out.trans hN)
    have HB12 := Lib.hid (hN.blk HB11.out fun x => x)
    clear hN p1 p2 q1 q2
    obtain ⟨p1, p2, _, _⟩ := box2_c HB12.out
    by_cases h8 : n ≤ 8
    · by_cases hL : L ≤ 8
      · have g1 : ¬ (8 : Int) < (n : Int) := by omega
        have g2 : ¬ (8 : Int) < L := by omega
        have HL0 : Hid (0 ≤ L) := Lib.hid (by have h := HM.out; unfold Kn.mayB at h; simp at h; omega)
        obtain ⟨m, HMm⟩ : ∃ m, Hid (m = 2 * n) := ⟨_, Lib.hid rfl⟩
        have hm32 : m ≤ 32 := by have := HMm.out; omega
        obtain ⟨kx, hkx, hpx⟩ := picked_nat px m b1 b2 (by have := HMm.out; omega) (by omega)
        obtain ⟨ky, hky, hpy⟩ := picked_nat py m c1 c2 (by have := HMm.out; omega) (by omega)
        have HPX := Lib.hid hpx
        have HPY := Lib.hid hpy
        clear hpx hpy
        obtain ⟨x, HXe⟩ : ∃ x, Hid (x = 1 + kx) := ⟨_, Lib.hid rfl⟩
        obtain ⟨y, HYe⟩ : ∃ x, Hid (x = 1 + ky) := ⟨_, Lib.hid rfl⟩
        obtain ⟨S, HSe⟩ : ∃ S, Hid (S = Kn.sumL X x y) := ⟨_, Lib.hid rfl⟩
        have hax : Kn.isArc X x := ⟨by have := HXe.out; omega, by have h1 := HXe.out; have h2 := HMm.out; have h3 := HN.out; unfold Kn.nArcs; omega⟩
        have hay : Kn.isArc X y := ⟨by have := HYe.out; omega, by have h1 := HYe.out; have h2 := HMm.out; have h3 := HN.out; unfold Kn.nArcs; omega⟩
        have hso := Kn.sumL_of HOK.out.1 hax hay
        have HSL : Hid (m = S.length) := Lib.hid (by rw [HSe.out, Kn.sumL_len, HMm.out, ← HN.out]; omega)
        have HSM : Hid (Kn.mayB S (L + L) = true) := Lib.hid (by
          have h1 := hso.ok HOK.out.1 HOK.out.1 hax hay
          rw [← HSe.out] at h1
          have h2 := (Kn.ok_iff S).2 h1
          have h3 := HSL.out
          have h4 := HL0.out
          have h5 := HMm.out
          have e1 : S.length ≤ 16 := by omega
          have e2 : ¬ S.length = 0 := by omega
          have e3 : 0 ≤ L + L := by omega
          have e4 : L + L ≤ 16 := by omega
          unfold Kn.mayB
          simp [h2, e1, e2, e3, e4])
        have HSP : Hid (pl = Kn.planarB S) := Lib.hid (by rw [HSe.out, hso.planar HOK.out.1 hax hay, HPL.out])
        have HYtgjmjbgicfkojaa := Lib.hid hax
        have HYY := Lib.hid hay
        have t1 : 2 * (n : Int) = (m : Int) := by have := HMm.out; omega
        have t2 : IntKind.i64.wrap (m : Int) = (m : Int) := IntWalk.i64_in _ (by omega)
        have t3 : 1 + (kx : Int) = (x : Int) := by have := HXe.out; omega
        have t4 : 1 + (ky : Int) = (y : Int) := by have := HYe.out; omega
        have t5 : IntKind.i64.wrap (x : Int) = (x : Int) := IntWalk.i64_in _ (by omega)
        have t6 : IntKind.i64.wrap (y : Int) = (y : Int) := IntWalk.i64_in _ (by omega)
        clear hso hax hay
        go_wp2_with fail
        go_cut [12, 26] (fun s12 s26 wx => Hid (s12 = .int .i64 0 ∧ SumBox w12 S (L + L) m s26 wx))
        case first =>
          --BEGIN28
          have HF0 : Hid (New w12 w12.drew) := Lib.hid (Fr.refl _ w12).drew
          have hS0 := two_of (HF0.out.blk HB12.out fun x => x)
          refine wp_region_held_drew (S := fun wz => wz.cell? ⟨w.heap.size, 0, none⟩ = some (.slice a n c) ∧ wz.cell? ⟨w.heap.size, 1, none⟩ = some (.int .i64 L)) (by kernel_rfl) hS0 (fun hHeld => ?_)
          clear hS0 p1 p2
          generalize w12.drew = r0 at hHeld HF0 ⊢
          refine' wpAnyH_take (i := 0) (v := _) rfl (by kernel_rfl) (by kernel_rfl) (by kernel_rfl) (fun _ _ _ h => h) (Or.inl ⟨by rfl, ?hyA⟩) (by assumption) ?restA
          case hyA => (intro w' hSw; (try dsimp only at hSw); go_simp <;> with_reducible rfl)
          case restA =>
          simp only [Act.put, List.getElem_toArray, List.getElem_cons_zero, List.setIfInBounds_toArray, List.set_cons_zero, List.set_cons_succ]
          refine' wpAnyH_take (i := 1) (v := _) rfl (by kernel_rfl) (by kernel_rfl) (by kernel_rfl) (fun _ _ _ h => h) (Or.inl ⟨by rfl, ?hyA⟩) (by assumption) ?restA
          case hyA => (intro w' hSw; (try dsimp only at hSw); go_simp <;> with_reducible rfl)
          case restA =>
          simp only [Act.put, List.getElem_toArray, List.getElem_cons_zero, List.getElem_cons_succ, List.setIfInBounds_toArray, List.set_cons_zero, List.set_cons_succ]
          refine' wpAnyH_take (i := 2) (v := _) rfl (by kernel_rfl) (by kernel_rfl) (by kernel_rfl) (fun _ _ _ h => h) (Or.inl ⟨by rfl, ?hyA⟩) (by assumption) ?restA
          case hyA => (intro w' hSw; (try dsimp only at hSw); go_simp <;> with_reducible rfl)
          case restA =>
          simp only [Act.put, List.getElem_toArray, List.getElem_cons_zero, List.getElem_cons_succ, List.setIfInBounds_toArray, List.set_cons_zero, List.set_cons_succ]
          refine' wpAnyH_take (i := 3) (v := _) rfl (by kernel_rfl) (by kernel_rfl) (by kernel_rfl) (fun _ _ _ h => h) (Or.inl ⟨by rfl, ?hyA⟩) (by assumption) ?restA
          case hyA => (intro w' hSw; (try dsimp only at hSw); go_simp <;> with_reducible rfl)
          case restA =>
          simp only [Act.put, List.getElem_toArray, List.getElem_cons_zero, List.getElem_cons_succ, List.setIfInBounds_toArray, List.set_cons_zero, List.set_cons_succ]
          refine' wpAnyH_take (i := 6) (v := _) rfl (by kernel_rfl) (by kernel_rfl) (by kernel_rfl) (fun _ _ _ h => h) (Or.inl ⟨by rfl, ?hyA⟩) (by assumption) ?restA
          case hyA => (intro w' hSw; (try dsimp only at hSw); go_simp <;> with_reducible rfl)
          case restA =>
          simp only [Act.put, List.getElem_toArray, List.getElem_cons_zero, List.getElem_cons_succ, List.setIfInBounds_toArray, List.set_cons_zero, List.set_cons_succ]
          refine' wpAnyH_take (i := 7) (v := _) rfl (by kernel_rfl) (by kernel_rfl) (by kernel_rfl) (fun _ _ _ h => h) (Or.inl ⟨by rfl, ?hyA⟩) (by assumption) ?restA
          case hyA => (intro w' hSw; (try dsimp only at hSw); go_simp <;> with_reducible rfl)
          case restA =>
          simp only [Act.put, List.getElem_toArray, List.getElem_cons_zero, List.getElem_cons_succ, List.setIfInBounds_toArray, List.set_cons_zero, List.set_cons_succ]
          refine' wpAnyH_take (i := 8) (v := _) rfl (by kernel_rfl) (by kernel_rfl) (by kernel_rfl) (fun _ _ _ h => h) (Or.inl ⟨by rfl, ?hyA⟩) (by assumption) ?restA
          case hyA => (intro w' hSw; (try dsimp only at hSw); go_simp <;> with_reducible rfl)
          case restA =>
          simp only [Act.put, List.getElem_toArray, List.getElem_cons_zero, List.getElem_cons_succ, List.setIfInBounds_toArray, List.set_cons_zero, List.set_cons_succ]
          refine' wpAnyH_take (i := 9) (v := _) rfl (by kernel_rfl) (by kernel_rfl) (by kernel_rfl) (fun _ _ _ h => h) (Or.inl ⟨by rfl, ?hyA⟩) (by assumption) ?restA
          case hyA => (intro w' hSw; (try dsimp only at hSw); go_simp <;> with_reducible rfl)
          case restA =>
          simp only [Act.put, List.getElem_toArray, List.getElem_cons_zero, List.getElem_cons_succ, List.setIfInBounds_toArray, List.set_cons_zero, List.set_cons_succ]
          refine wpAnyH_ready (rs := [4, 16]) (by kernel_rfl) (by simp) ?_
          refine AllReadyH.cons rfl (fun K hK => ?_) (AllReadyH.cons rfl (fun K hK => ?_) AllReadyH.nil)
          · skip
            (try simp only [List.getElem_toArray, List.getElem_cons_zero, List.getElem_cons_succ])
            go_simp
            refine (HPX.out _).mono ?_
            rintro e w' ⟨rfl, hw⟩
            rw [hw]
            clear hw w'
            go_wp2_with fail
            refine hK.out _ _ (two_of (HF0.out.blk HB12.out fun x => x)) (fun hHeld => ?_)
            clear hK K
            (try simp only [Act.put, List.getElem_toArray, List.getElem_cons_zero, List.getElem_cons_succ, List.setIfInBounds_toArray, List.set_cons_zero, List.set_cons_succ])
            refine' wpAnyH_take (i := 5) (v := _) rfl (by kernel_rfl) (by kernel_rfl) (by kernel_rfl) (fun _ _ _ h => h) (Or.inl ⟨by rfl, ?hyA⟩) (by assumption) ?restA
            case hyA => (intro w' hSw; (try dsimp only at hSw); go_simp <;> with_reducible rfl)
            case restA =>
            simp only [Act.put, List.getElem_toArray, List.getElem_cons_zero, List.getElem_cons_succ, List.setIfInBounds_toArray, List.set_cons_zero, List.set_cons_succ]
            refine wpAnyH_ready (rs := [10, 16]) (by kernel_rfl) (by simp) ?_
            refine AllReadyH.cons rfl (fun K hK => ?_) (AllReadyH.cons rfl (fun K hK => ?_) AllReadyH.nil)
            · skip
              (try simp only [List.getElem_toArray, List.getElem_cons_zero, List.getElem_cons_succ])
              go_simp
              refine (HPY.out _).mono ?_
              rintro e w' ⟨rfl, hw⟩
              rw [hw]
              clear hw w'
              go_wp2_with fail
              refine hK.out _ _ (two_of (HF0.out.blk HB12.out fun x => x)) (fun hHeld => ?_)
              clear hK K
              (try simp only [Act.put, List.getElem_toArray, List.getElem_cons_zero, List.getElem_cons_succ, List.setIfInBounds_toArray, List.set_cons_zero, List.set_cons_succ])
              refine' wpAnyH_take (i := 11) (v := _) rfl (by kernel_rfl) (by kernel_rfl) (by kernel_rfl) (fun _ _ _ h => h) (Or.inl ⟨by rfl, ?hyA⟩) (by assumption) ?restA
              case hyA => (intro w' hSw; (try dsimp only at hSw); go_simp <;> with_reducible rfl)
              case restA =>
              simp only [Act.put, List.getElem_toArray, List.getElem_cons_zero, List.getElem_cons_succ, List.setIfInBounds_toArray, List.set_cons_zero, List.set_cons_succ]
              refine wpAnyH_ready (rs := [12, 16]) (by kernel_rfl) (by simp) ?_
              refine AllReadyH.cons rfl (fun K hK => ?_) (AllReadyH.cons rfl (fun K hK => ?_) AllReadyH.nil)
              · skip
                (try simp only [List.getElem_toArray, List.getElem_cons_zero, List.getElem_cons_succ])
                go_simp
                refine (sum_own a n c x y m X L _ (New.crs (HN12.out.trans HF0.out) HX.out) HN.out HM.out h8 hL HYtgjmjbgicfkojaa.out.1 (by have h1 := HYtgjmjbgicfkojaa.out.2; unfold Kn.nArcs at h1; have := HN.out; omega) HYY.out.1 (by have h1 := HYY.out.2; unfold Kn.nArcs at h1; have := HN.out; omega) (by rw [HSL.out, HSe.out])).mono ?_
                rintro e r1 ⟨a13, c13, rfl, hown, hF⟩
                rw [← HSe.out] at hown
                have HOWN := Lib.hid hown
                have HF1 := Lib.hid (HF0.out.trans hF)
                clear hown hF
                go_wp2_with fail
                refine hK.out _ _ (two_of (HF1.out.blk HB12.out fun x => x)) (fun hHeld => ?_)
                clear hK K
                (try simp only [Act.put, List.getElem_toArray, List.getElem_cons_zero, List.getElem_cons_succ, List.setIfInBounds_toArray, List.set_cons_zero, List.set_cons_succ])
                refine' wpAnyH_take (i := 13) (v := _) rfl (by kernel_rfl) (by kernel_rfl) (by kernel_rfl) (fun _ _ _ h => h) (Or.inl ⟨by rfl, ?hyA⟩) (by assumption) ?restA
                case hyA => (intro w' hSw; (try dsimp only at hSw); go_simp <;> with_reducible rfl)
                case restA =>
                simp only [Act.put, List.getElem_toArray, List.getElem_cons_zero, List.getElem_cons_succ, List.setIfInBounds_toArray, List.set_cons_zero, List.set_cons_succ]
                refine' wpAnyH_take (i := 14) (v := _) rfl (by kernel_rfl) (by kernel_rfl) (by kernel_rfl) (fun _ _ _ h => h) (Or.inl ⟨by rfl, ?hyA⟩) (by assumption) ?restA
                case hyA => (intro w' hSw; (try dsimp only at hSw); go_simp <;> with_reducible rfl)
                case restA =>
                simp only [Act.put, List.getElem_toArray, List.getElem_cons_zero, List.getElem_cons_succ, List.setIfInBounds_toArray, List.set_cons_zero, List.set_cons_succ]
                refine' wpAnyH_take (i := 15) (v := _) rfl (by kernel_rfl) (by kernel_rfl) (by kernel_rfl) (fun _ _ _ h => h) (Or.inl ⟨by rfl, ?hyA⟩) (by assumption) ?restA
                case hyA => (intro w' hSw; (try dsimp only at hSw); go_simp <;> with_reducible rfl)
                case restA =>
                simp only [Act.put, List.getElem_toArray, List.getElem_cons_zero, List.getElem_cons_succ, List.setIfInBounds_toArray, List.set_cons_zero, List.set_cons_succ]
                refine wpAnyH_ready (rs := [16]) (by kernel_rfl) (by simp) ?_
                refine AllReadyH.cons rfl (fun K hK => ?_) AllReadyH.nil
                (try simp only [List.getElem_toArray, List.getElem_cons_zero, List.getElem_cons_succ])
                go_simp
                have HFz : Hid (New r1 (r1.alloc (.cells #[.slice none 0 0, .int .i64 0] 24))) := Lib.hid ((Fr.refl _ r1).alloc _)
                have HOWNz := Lib.hid (HFz.out.owns HOWN.out fun _ _ x => x)
                clear HOWN
                have HOWN := HOWNz
                clear HFz HOWNz
                have HF2 : Hid (New w12 (r1.alloc (.cells #[.slice none 0 0, .int .i64 0] 24))) := Lib.hid (HF1.out.alloc _)
                have HZ2 := Lib.hid (heap_alloc_new r1 (.cells #[.slice none 0 0, .int .i64 0] 24))
                have hlt1 := HF1.out.size
                refine hK.out _ _ (two_of (HF2.out.blk HB12.out fun x => x)) (fun hHeld => ?_)
                clear hK K
                (try simp only [Act.put, List.getElem_toArray, List.getElem_cons_zero, List.getElem_cons_succ, List.setIfInBounds_toArray, List.set_cons_zero, List.set_cons_succ])
                obtain ⟨r2, hr2⟩ : ∃ r, r = r1.alloc (.cells #[.slice none 0 0, .int .i64 0] 24) := ⟨_, rfl⟩
                rw [← hr2] at HF2 HZ2 HOWN hHeld ⊢
                obtain ⟨B8, HB8⟩ : ∃ B, Hid (B = r1.heap.size) := ⟨_, Lib.hid rfl⟩
                rw [← HB8.out] at HZ2 ⊢
                have hB8 : w12.heap.size ≤ B8 := by rw [HB8.out]; exact hlt1
                clear hr2
                refine wpAnyH_ready (rs := [17]) (by kernel_rfl) (by simp) ?_
                refine AllReadyH.cons rfl (fun K hK => ?_) AllReadyH.nil
                (try simp only [List.getElem_toArray, List.getElem_cons_zero, List.getElem_cons_succ])
                obtain ⟨z1, z2, z3, z4⟩ := box2_c HZ2.out
                have hz1 := (box2_set HZ2.out (.slice a13 m c13)).1
                obtain ⟨_, z5, _, z6⟩ := box2_c hz1
                clear hz1
                go_simp
                have HE := Lib.hid (sumBox_old (L2 := L + L) HF2.out HZ2.out hB8 HOWN.out HSL.out)
                have HFE := Lib.hid (show New w12 ((r2.setCell ⟨B8, 0, none⟩ (.slice a13 m c13)).setCell ⟨B8, 1, none⟩ (.int .i64 (L + L))) from by obtain ⟨_, _, _, _, h, _⟩ := HE.out; exact h)
                refine hK.out _ _ (two_of (HFE.out.blk HB12.out fun x => x)) (fun hHeld => ?_)
                clear hK K
                (try simp only [Act.put, List.getElem_toArray, List.getElem_cons_zero, List.getElem_cons_succ, List.setIfInBounds_toArray, List.set_cons_zero, List.set_cons_succ])
                refine' wpAnyH_take (i := 18) (v := _) rfl (by kernel_rfl) (by kernel_rfl) (by kernel_rfl) (fun _ _ _ h => h) (Or.inl ⟨by rfl, ?hyA⟩) (by assumption) ?restA
                case hyA => (intro w' hSw; (try dsimp only at hSw); go_simp <;> with_reducible rfl)
                case restA =>
                simp only [Act.put, List.getElem_toArray, List.getElem_cons_zero, List.getElem_cons_succ, List.setIfInBounds_toArray, List.set_cons_zero, List.set_cons_succ]
                refine wpAnyH_done (by kernel_rfl) ?_ _
                go_wp2_with fail
                go_meet
                exact Lib.hid ⟨rfl, HE.out⟩
              · skip
                (try simp only [List.getElem_toArray, List.getElem_cons_zero, List.getElem_cons_succ])
                go_simp
                have HF1 : Hid (New w12 (r0.alloc (.cells #[.slice none 0 0, .int .i64 0] 24))) := Lib.hid (HF0.out.alloc _)
                have HZ1 := Lib.hid (heap_alloc_new r0 (.cells #[.slice none 0 0, .int .i64 0] 24))
                have hlt0 := HF0.out.size
                refine hK.out _ _ (two_of (HF1.out.blk HB12.out fun x => x)) (fun hHeld => ?_)
                clear hK K
                (try simp only [Act.put, List.getElem_toArray, List.getElem_cons_zero, List.getElem_cons_succ, List.setIfInBounds_toArray, List.set_cons_zero, List.set_cons_succ])
                obtain ⟨r1, hr1⟩ : ∃ r, r = r0.alloc (.cells #[.slice none 0 0, .int .i64 0] 24) := ⟨_, rfl⟩
                rw [← hr1] at HF1 HZ1 hHeld ⊢
                obtain ⟨B8, HB8⟩ : ∃ B, Hid (B = r0.heap.size) := ⟨_, Lib.hid rfl⟩
                rw [← HB8.out] at HZ1 ⊢
                have hB8 : w12.heap.size ≤ B8 := by rw [HB8.out]; exact hlt0
                clear hr1
                refine wpAnyH_ready (rs := [12]) (by kernel_rfl) (by simp) ?_
                refine AllReadyH.cons rfl (fun K hK => ?_) AllReadyH.nil
                (try simp only [List.getElem_toArray, List.getElem_cons_zero, List.getElem_cons_succ])
                go_simp
                refine (sum_own a n c x y m X L _ (New.crs (HN12.out.trans HF1.out) HX.out) HN.out HM.out h8 hL HYtgjmjbgicfkojaa.out.1 (by have h1 := HYtgjmjbgicfkojaa.out.2; unfold Kn.nArcs at h1; have := HN.out; omega) HYY.out.1 (by have h1 := HYY.out.2; unfold Kn.nArcs at h1; have := HN.out; omega) (by rw [HSL.out, HSe.out])).mono ?_
                rintro e r2 ⟨a13, c13, rfl, hown, hF⟩
                rw [← HSe.out] at hown
                have HOWN := Lib.hid hown
                have HF2 := Lib.hid (HF1.out.trans hF)
                have HZ2 := Lib.hid (hF.blk HZ1.out fun x => x)
                clear hown hF
                go_wp2_with fail
                refine hK.out _ _ (two_of (HF2.out.blk HB12.out fun x => x)) (fun hHeld => ?_)
                clear hK K
                (try simp only [Act.put, List.getElem_toArray, List.getElem_cons_zero, List.getElem_cons_succ, List.setIfInBounds_toArray, List.set_cons_zero, List.set_cons_succ])
                refine' wpAnyH_take (i := 13) (v := _) rfl (by kernel_rfl) (by kernel_rfl) (by kernel_rfl) (fun _ _ _ h => h) (Or.inl ⟨by rfl, ?hyA⟩) (by assumption) ?restA
                case hyA => (intro w' hSw; (try dsimp only at hSw); go_simp <;> with_reducible rfl)
                case restA =>
                simp only [Act.put, List.getElem_toArray, List.getElem_cons_zero, List.getElem_cons_succ, List.setIfInBounds_toArray, List.set_cons_zero, List.set_cons_succ]
                refine' wpAnyH_take (i := 14) (v := _) rfl (by kernel_rfl) (by kernel_rfl) (by kernel_rfl) (fun _ _ _ h => h) (Or.inl ⟨by rfl, ?hyA⟩) (by assumption) ?restA
                case hyA => (intro w' hSw; (try dsimp only at hSw); go_simp <;> with_reducible rfl)
                case restA =>
                simp only [Act.put, List.getElem_toArray, List.getElem_cons_zero, List.getElem_cons_succ, List.setIfInBounds_toArray, List.set_cons_zero, List.set_cons_succ]
                refine' wpAnyH_take (i := 15) (v := _) rfl (by kernel_rfl) (by kernel_rfl) (by kernel_rfl) (fun _ _ _ h => h) (Or.inl ⟨by rfl, ?hyA⟩) (by assumption) ?restA
                case hyA => (intro w' hSw; (try dsimp only at hSw); go_simp <;> with_reducible rfl)
                case restA =>
                simp only [Act.put, List.getElem_toArray, List.getElem_cons_zero, List.getElem_cons_succ, List.setIfInBounds_toArray, List.set_cons_zero, List.set_cons_succ]
                refine wpAnyH_ready (rs := [17]) (by kernel_rfl) (by simp) ?_
                refine AllReadyH.cons rfl (fun K hK => ?_) AllReadyH.nil
                (try simp only [List.getElem_toArray, List.getElem_cons_zero, List.getElem_cons_succ])
                obtain ⟨z1, z2, z3, z4⟩ := box2_c HZ2.out
                have hz1 := (box2_set HZ2.out (.slice a13 m c13)).1
                obtain ⟨_, z5, _, z6⟩ := box2_c hz1
                clear hz1
                go_simp
                have HE := Lib.hid (sumBox_old (L2 := L + L) HF2.out HZ2.out hB8 HOWN.out HSL.out)
                have HFE := Lib.hid (show New w12 ((r2.setCell ⟨B8, 0, none⟩ (.slice a13 m c13)).setCell ⟨B8, 1, none⟩ (.int .i64 (L + L))) from by obtain ⟨_, _, _, _, h, _⟩ := HE.out; exact h)
                refine hK.out _ _ (two_of (HFE.out.blk HB12.out fun x => x)) (fun hHeld => ?_)
                clear hK K
                (try simp only [Act.put, List.getElem_toArray, List.getElem_cons_zero, List.getElem_cons_succ, List.setIfInBounds_toArray, List.set_cons_zero, List.set_cons_succ])
                refine' wpAnyH_take (i := 18) (v := _) rfl (by kernel_rfl) (by kernel_rfl) (by kernel_rfl) (fun _ _ _ h => h) (Or.inl ⟨by rfl, ?hyA⟩) (by assumption) ?restA
                case hyA => (intro w' hSw; (try dsimp only at hSw); go_simp <;> with_reducible rfl)
                case restA =>
                simp only [Act.put, List.getElem_toArray, List.getElem_cons_zero, List.getElem_cons_succ, List.setIfInBounds_toArray, List.set_cons_zero, List.set_cons_succ]
                refine wpAnyH_done (by kernel_rfl) ?_ _
                go_wp2_with fail
                go_meet
                exact Lib.hid ⟨rfl, HE.out⟩
            · skip
              (try simp only [List.getElem_toArray, List.getElem_cons_zero, List.getElem_cons_succ])
              go_simp
              have HF1 : Hid (New w12 (r0.alloc (.cells #[.slice none 0 0, .int .i64 0] 24))) := Lib.hid (HF0.out.alloc _)
              have HZ1 := Lib.hid (heap_alloc_new r0 (.cells #[.slice none 0 0, .int .i64 0] 24))
              have hlt0 := HF0.out.size
              refine hK.out _ _ (two_of (HF1.out.blk HB12.out fun x => x)) (fun hHeld => ?_)
              clear hK K
              (try simp only [Act.put, List.getElem_toArray, List.getElem_cons_zero, List.getElem_cons_succ, List.setIfInBounds_toArray, List.set_cons_zero, List.set_cons_succ])
              obtain ⟨r1, hr1⟩ : ∃ r, r = r0.alloc (.cells #[.slice none 0 0, .int .i64 0] 24) := ⟨_, rfl⟩
              rw [← hr1] at HF1 HZ1 hHeld ⊢
              obtain ⟨B8, HB8⟩ : ∃ B, Hid (B = r0.heap.size) := ⟨_, Lib.hid rfl⟩
              rw [← HB8.out] at HZ1 ⊢
              have hB8 : w12.heap.size ≤ B8 := by rw [HB8.out]; exact hlt0
              clear hr1
              refine wpAnyH_ready (rs := [10]) (by kernel_rfl) (by simp) ?_
              refine AllReadyH.cons rfl (fun K hK => ?_) AllReadyH.nil
              (try simp only [List.getElem_toArray, List.getElem_cons_zero, List.getElem_cons_succ])
              go_simp
              refine (HPY.out _).mono ?_
              rintro e w' ⟨rfl, hw⟩
              rw [hw]
              clear hw w'
              go_wp2_with fail
              refine hK.out _ _ (two_of (HF1.out.blk HB12.out fun x => x)) (fun hHeld => ?_)
              clear hK K
              (try simp only [Act.put, List.getElem_toArray, List.getElem_cons_zero, List.getElem_cons_succ, List.setIfInBounds_toArray, List.set_cons_zero, List.set_cons_succ])
              refine' wpAnyH_take (i := 11) (v := _) rfl (by kernel_rfl) (by kernel_rfl) (by kernel_rfl) (fun _ _ _ h => h) (Or.inl ⟨by rfl, ?hyA⟩) (by assumption) ?restA
              case hyA => (intro w' hSw; (try dsimp only at hSw); go_simp <;> with_reducible rfl)
              case restA =>
              simp only [Act.put, List.getElem_toArray, List.getElem_cons_zero, List.getElem_cons_succ, List.setIfInBounds_toArray, List.set_cons_zero, List.set_cons_succ]
              refine wpAnyH_ready (rs := [12]) (by kernel_rfl) (by simp) ?_
              refine AllReadyH.cons rfl (fun K hK => ?_) AllReadyH.nil
              (try simp only [List.getElem_toArray, List.getElem_cons_zero, List.getElem_cons_succ])
              go_simp
              refine (sum_own a n c x y m X L _ (New.crs (HN12.out.trans HF1.out) HX.out) HN.out HM.out h8 hL HYtgjmjbgicfkojaa.out.1 (by have h1 := HYtgjmjbgicfkojaa.out.2; unfold Kn.nArcs at h1; have := HN.out; omega) HYY.out.1 (by have h1 := HYY.out.2; unfold Kn.nArcs at h1; have := HN.out; omega) (by rw [HSL.out, HSe.out])).mono ?_
              rintro e r2 ⟨a13, c13, rfl, hown, hF⟩
              rw [← HSe.out] at hown
              have HOWN := Lib.hid hown
              have HF2 := Lib.hid (HF1.out.trans hF)
              have HZ2 := Lib.hid (hF.blk HZ1.out fun x => x)
              clear hown hF
              go_wp2_with fail
              refine hK.out _ _ (two_of (HF2.out.blk HB12.out fun x => x)) (fun hHeld => ?_)
              clear hK K
              (try simp only [Act.put, List.getElem_toArray, List.getElem_cons_zero, List.getElem_cons_succ, List.setIfInBounds_toArray, List.set_cons_zero, List.set_cons_succ])
              refine' wpAnyH_take (i := 13) (v := _) rfl (by kernel_rfl) (by kernel_rfl) (by kernel_rfl) (fun _ _ _ h => h) (Or.inl ⟨by rfl, ?hyA⟩) (by assumption) ?restA
              case hyA => (intro w' hSw; (try dsimp only at hSw); go_simp <;> with_reducible rfl)
              case restA =>
              simp only [Act.put, List.getElem_toArray, List.getElem_cons_zero, List.getElem_cons_succ, List.setIfInBounds_toArray, List.set_cons_zero, List.set_cons_succ]
              refine' wpAnyH_take (i := 14) (v := _) rfl (by kernel_rfl) (by kernel_rfl) (by kernel_rfl) (fun _ _ _ h => h) (Or.inl ⟨by rfl, ?hyA⟩) (by assumption) ?restA
              case hyA => (intro w' hSw; (try dsimp only at hSw); go_simp <;> with_reducible rfl)
              case restA =>
              simp only [Act.put, List.getElem_toArray, List.getElem_cons_zero, List.getElem_cons_succ, List.setIfInBounds_toArray, List.set_cons_zero, List.set_cons_succ]
              refine' wpAnyH_take (i := 15) (v := _) rfl (by kernel_rfl) (by kernel_rfl) (by kernel_rfl) (fun _ _ _ h => h) (Or.inl ⟨by rfl, ?hyA⟩) (by assumption) ?restA
              case hyA => (intro w' hSw; (try dsimp only at hSw); go_simp <;> with_reducible rfl)
              case restA =>
              simp only [Act.put, List.getElem_toArray, List.getElem_cons_zero, List.getElem_cons_succ, List.setIfInBounds_toArray, List.set_cons_zero, List.set_cons_succ]
              refine wpAnyH_ready (rs := [17]) (by kernel_rfl) (by simp) ?_
              refine AllReadyH.cons rfl (fun K hK => ?_) AllReadyH.nil
              (try simp only [List.getElem_toArray, List.getElem_cons_zero, List.getElem_cons_succ])
              obtain ⟨z1, z2, z3, z4⟩ := box2_c HZ2.out
              have hz1 := (box2_set HZ2.out (.slice a13 m c13)).1
              obtain ⟨_, z5, _, z6⟩ := box2_c hz1
              clear hz1
              go_simp
              have HE := Lib.hid (sumBox_old (L2 := L + L) HF2.out HZ2.out hB8 HOWN.out HSL.out)
              have HFE := Lib.hid (show New w12 ((r2.setCell ⟨B8, 0, none⟩ (.slice a13 m c13)).setCell ⟨B8, 1, none⟩ (.int .i64 (L + L))) from by obtain ⟨_, _, _, _, h, _⟩ := HE.out; exact h)
              refine hK.out _ _ (two_of (HFE.out.blk HB12.out fun x => x)) (fun hHeld => ?_)
              clear hK K
              (try simp only [Act.put, List.getElem_toArray, List.getElem_cons_zero, List.getElem_cons_succ, List.setIfInBounds_toArray, List.set_cons_zero, List.set_cons_succ])
              refine' wpAnyH_take (i := 18) (v := _) rfl (by kernel_rfl) (by kernel_rfl) (by kernel_rfl) (fun _ _ _ h => h) (Or.inl ⟨by rfl, ?hyA⟩) (by assumption) ?restA
              case hyA => (intro w' hSw; (try dsimp only at hSw); go_simp <;> with_reducible rfl)
              case restA =>
              simp only [Act.put, List.getElem_toArray, List.getElem_cons_zero, List.getElem_cons_succ, List.setIfInBounds_toArray, List.set_cons_zero, List.set_cons_succ]
              refine wpAnyH_done (by kernel_rfl) ?_ _
              go_wp2_with fail
              go_meet
              exact Lib.hid ⟨rfl, HE.out⟩
          · skip
            (try simp only [List.getElem_toArray, List.getElem_cons_zero, List.getElem_cons_succ])
            go_simp
            have HF1 : Hid (New w12 (r0.alloc (.cells #[.slice none 0 0, .int .i64 0] 24))) := Lib.hid (HF0.out.alloc _)
            have HZ1 := Lib.hid (heap_alloc_new r0 (.cells #[.slice none 0 0, .int .i64 0] 24))
            have hlt0 := HF0.out.size
            refine hK.out _ _ (two_of (HF1.out.blk HB12.out fun x => x)) (fun hHeld => ?_)
            clear hK K
            (try simp only [Act.put, List.getElem_toArray, List.getElem_cons_zero, List.getElem_cons_succ, List.setIfInBounds_toArray, List.set_cons_zero, List.set_cons_succ])
            obtain ⟨r1, hr1⟩ : ∃ r, r = r0.alloc (.cells #[.slice none 0 0, .int .i64 0] 24) := ⟨_, rfl⟩
            rw [← hr1] at HF1 HZ1 hHeld ⊢
            obtain ⟨B8, HB8⟩ : ∃ B, Hid (B = r0.heap.size) := ⟨_, Lib.hid rfl⟩
            rw [← HB8.out] at HZ1 ⊢
            have hB8 : w12.heap.size ≤ B8 := by rw [HB8.out]; exact hlt0
            clear hr1
            refine wpAnyH_ready (rs := [4]) (by kernel_rfl) (by simp) ?_
            refine AllReadyH.cons rfl (fun K hK => ?_) AllReadyH.nil
            (try simp only [List.getElem_toArray, List.getElem_cons_zero, List.getElem_cons_succ])
            go_simp
            refine (HPX.out _).mono ?_
            rintro e w' ⟨rfl, hw⟩
            rw [hw]
            clear hw w'
            go_wp2_with fail
            refine hK.out _ _ (two_of (HF1.out.blk HB12.out fun x => x)) (fun hHeld => ?_)
            clear hK K
            (try simp only [Act.put, List.getElem_toArray, List.getElem_cons_zero, List.getElem_cons_succ, List.setIfInBounds_toArray, List.set_cons_zero, List.set_cons_succ])
            refine' wpAnyH_take (i := 5) (v := _) rfl (by kernel_rfl) (by kernel_rfl) (by kernel_rfl) (fun _ _ _ h => h) (Or.inl ⟨by rfl, ?hyA⟩) (by assumption) ?restA
            case hyA => (intro w' hSw; (try dsimp only at hSw); go_simp <;> with_reducible rfl)
            case restA =>
            simp only [Act.put, List.getElem_toArray, List.getElem_cons_zero, List.getElem_cons_succ, List.setIfInBounds_toArray, List.set_cons_zero, List.set_cons_succ]
            refine wpAnyH_ready (rs := [10]) (by kernel_rfl) (by simp) ?_
            refine AllReadyH.cons rfl (fun K hK => ?_) AllReadyH.nil
            (try simp only [List.getElem_toArray, List.getElem_cons_zero, List.getElem_cons_succ])
            go_simp
            refine (HPY.out _).mono ?_
            rintro e w' ⟨rfl, hw⟩
            rw [hw]
            clear hw w'
            go_wp2_with fail
            refine hK.out _ _ (two_of (HF1.out.blk HB12.out fun x => x)) (fun hHeld => ?_)
            clear hK K
            (try simp only [Act.put, List.getElem_toArray, List.getElem_cons_zero, List.getElem_cons_succ, List.setIfInBounds_toArray, List.set_cons_zero, List.set_cons_succ])
            refine' wpAnyH_take (i := 11) (v := _) rfl (by kernel_rfl) (by kernel_rfl) (by kernel_rfl) (fun _ _ _ h => h) (Or.inl ⟨by rfl, ?hyA⟩) (by assumption) ?restA
            case hyA => (intro w' hSw; (try dsimp only at hSw); go_simp <;> with_reducible rfl)
            case restA =>
            simp only [Act.put, List.getElem_toArray, List.getElem_cons_zero, List.getElem_cons_succ, List.setIfInBounds_toArray, List.set_cons_zero, List.set_cons_succ]
            refine wpAnyH_ready (rs := [12]) (by kernel_rfl) (by simp) ?_
            refine AllReadyH.cons rfl (fun K hK => ?_) AllReadyH.nil
            (try simp only [List.getElem_toArray, List.getElem_cons_zero, List.getElem_cons_succ])
            go_simp
            refine (sum_own a n c x y m X L _ (New.crs (HN12.out.trans HF1.out) HX.out) HN.out HM.out h8 hL HYtgjmjbgicfkojaa.out.1 (by have h1 := HYtgjmjbgicfkojaa.out.2; unfold Kn.nArcs at h1; have := HN.out; omega) HYY.out.1 (by have h1 := HYY.out.2; unfold Kn.nArcs at h1; have := HN.out; omega) (by rw [HSL.out, HSe.out])).mono ?_
            rintro e r2 ⟨a13, c13, rfl, hown, hF⟩
            rw [← HSe.out] at hown
            have HOWN := Lib.hid hown
            have HF2 := Lib.hid (HF1.out.trans hF)
            have HZ2 := Lib.hid (hF.blk HZ1.out fun x => x)
            clear hown hF
            go_wp2_with fail
            refine hK.out _ _ (two_of (HF2.out.blk HB12.out fun x => x)) (fun hHeld => ?_)
            clear hK K
            (try simp only [Act.put, List.getElem_toArray, List.getElem_cons_zero, List.getElem_cons_succ, List.setIfInBounds_toArray, List.set_cons_zero, List.set_cons_succ])
            refine' wpAnyH_take (i := 13) (v := _) rfl (by kernel_rfl) (by kernel_rfl) (by kernel_rfl) (fun _ _ _ h => h) (Or.inl ⟨by rfl, ?hyA⟩) (by assumption) ?restA
            case hyA => (intro w' hSw; (try dsimp only at hSw); go_simp <;> with_reducible rfl)
            case restA =>
            simp only [Act.put, List.getElem_toArray, List.getElem_cons_zero, List.getElem_cons_succ, List.setIfInBounds_toArray, List.set_cons_zero, List.set_cons_succ]
            refine' wpAnyH_take (i := 14) (v := _) rfl (by kernel_rfl) (by kernel_rfl) (by kernel_rfl) (fun _ _ _ h => h) (Or.inl ⟨by rfl, ?hyA⟩) (by assumption) ?restA
            case hyA => (intro w' hSw; (try dsimp only at hSw); go_simp <;> with_reducible rfl)
            case restA =>
            simp only [Act.put, List.getElem_toArray, List.getElem_cons_zero, List.getElem_cons_succ, List.setIfInBounds_toArray, List.set_cons_zero, List.set_cons_succ]
            refine' wpAnyH_take (i := 15) (v := _) rfl (by kernel_rfl) (by kernel_rfl) (by kernel_rfl) (fun _ _ _ h => h) (Or.inl ⟨by rfl, ?hyA⟩) (by assumption) ?restA
            case hyA => (intro w' hSw; (try dsimp only at hSw); go_simp <;> with_reducible rfl)
            case restA =>
            simp only [Act.put, List.getElem_toArray, List.getElem_cons_zero, List.getElem_cons_succ, List.setIfInBounds_toArray, List.set_cons_zero, List.set_cons_succ]
            refine wpAnyH_ready (rs := [17]) (by kernel_rfl) (by simp) ?_
            refine AllReadyH.cons rfl (fun K hK => ?_) AllReadyH.nil
            (try simp only [List.getElem_toArray, List.getElem_cons_zero, List.getElem_cons_succ])
            obtain ⟨z1, z2, z3, z4⟩ := box2_c HZ2.out
            have hz1 := (box2_set HZ2.out (.slice a13 m c13)).1
            obtain ⟨_, z5, _, z6⟩ := box2_c hz1
            clear hz1
            go_simp
            have HE := Lib.hid (sumBox_old (L2 := L + L) HF2.out HZ2.out hB8 HOWN.out HSL.out)
            have HFE := Lib.hid (show New w12 ((r2.setCell ⟨B8, 0, none⟩ (.slice a13 m c13)).setCell ⟨B8, 1, none⟩ (.int .i64 (L + L))) from by obtain ⟨_, _, _, _, h, _⟩ := HE.out; exact h)
            refine hK.out _ _ (two_of (HFE.out.blk HB12.out fun x => x)) (fun hHeld => ?_)
            clear hK K
            (try simp only [Act.put, List.getElem_toArray, List.getElem_cons_zero, List.getElem_cons_succ, List.setIfInBounds_toArray, List.set_cons_zero, List.set_cons_succ])
            refine' wpAnyH_take (i := 18) (v := _) rfl (by kernel_rfl) (by kernel_rfl) (by kernel_rfl) (fun _ _ _ h => h) (Or.inl ⟨by rfl, ?hyA⟩) (by assumption) ?restA
            case hyA => (intro w' hSw; (try dsimp only at hSw); go_simp <;> with_reducible rfl)
            case restA =>
            simp only [Act.put, List.getElem_toArray, List.getElem_cons_zero, List.getElem_cons_succ, List.setIfInBounds_toArray, List.set_cons_zero, List.set_cons_succ]
            refine wpAnyH_done (by kernel_rfl) ?_ _
            go_wp2_with fail
            go_meet
            exact Lib.hid ⟨rfl, HE.out⟩
          --END28
        case rest =>
        obtain ⟨rfl, B, a13, c13, rfl, hN, hb, hx13⟩ := Hid.out hcut
        obtain ⟨w13, rfl⟩ : ∃ w3, w3 = wc := ⟨_, rfl⟩
        have HN13 := Lib.hid (HN12.out.trans hN)
        have HC13 := Lib.hid hx13
        have HS13 := Lib.hid hb
        clear hcut hN hb hx13 p1 p2 t3 t4 t5 t6
        obtain ⟨p1, p2, _, _⟩ := box2_c HS13.out
        go_wp2_with fail
        refine (cplanar_yes a13 m c13 S (L + L) _ HC13.out HSL.out HSM.out (by omega) (by have := HL0.out; omega) (by omega) pl HSP.out).mono ?_
        rintro e w14 ⟨rfl, hN⟩
        have HN14 := Lib.hid (HN13.out.trans hN)
        have HC14 := Lib.hid (New.crs hN HC13.out)
        have HS14 := Lib.hid (hN.blk HS13.out fun x => x)
        clear hN p1 p2
        obtain ⟨p1, p2, _, _⟩ := box2_c HS14.out
        go_wp2_with fail
        refine (may_any a13 m c13 S (L + L) _ HC14.out HSL.out (by omega) (by have := HL0.out; omega) (by omega)).mono ?_
        rintro e w15 ⟨rfl, hN⟩
        rw [HSM.out]
        have HN15 := Lib.hid (HN14.out.trans hN)
        have HS15 := Lib.hid (hN.blk HS14.out fun x => x)
        clear hN p1 p2
        obtain ⟨p1, p2, _, _⟩ := box2_c HS15.out
        go_wp2
        go_ret
        exact ⟨rfl, HN15.out⟩
      · have g1 : ¬ (8 : Int) < (n : Int) := by omega
        have g2 : (8 : Int) < L := by omega
        go_wp2
        go_ret
        exact ⟨rfl, HN12.out⟩
    · have g1 : (8 : Int) < (n : Int) := by omega
      go_wp2
      go_ret
      exact ⟨rfl, HN12.out⟩
  · have hm' : Kn.mayB X L = false := by rw [Bool.eq_false_iff]; exact hm
    have HM := Lib.hid hm'
    clear hm hm'
    go_enter Try.func6, Try.ntmps6
    go_wp2_with fail
    refine (awake_any _).mono ?_
    rintro e w1 ⟨rfl, hN⟩
    have HN1 : Hid (New w w1) := Lib.hid (((Fr.refl _ w).alloc _).trans hN)
    have HB1 := Lib.hid (hN.blk (heap_alloc_new w (.cells #[.slice a n c, .int .i64 L] 24)) fun x => x)
    obtain ⟨p1, p2, _, _⟩ := box2_c HB1.out
    clear hN
    go_wp2_with fail
    refine (may_any a n c X L _ (New.crs HN1.out HX.out) HN.out lx l1 l2).mono ?_
    rintro e w2 ⟨rfl, hN⟩
    rw [HM.out]
    have HN2 := Lib.hid (HN1.out.trans hN)
    have HB2 := Lib.hid (hN.blk HB1.out fun x => x)
    clear hN p1 p2
    obtain ⟨p1, p2, _, _⟩ := box2_c HB2.out
    go_wp2_with fail
    refine (mirror_no a n c X L _ (New.crs HN2.out HX.out) HN.out lx l1 l2 HM.out).mono ?_
    rintro e w3 ⟨rfl, hN⟩
    have HN3 := Lib.hid (HN2.out.trans hN)
    clear hN
    go_wp2
    go_ret
    exact ⟨rfl, HN3.out.alloc _⟩
end Go.Proofs.Ytgjmjbgicfkojaa
