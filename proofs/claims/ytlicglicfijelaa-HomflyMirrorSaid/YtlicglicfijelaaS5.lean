/- Walks: the law HomflyMirror. -/
import Derived.Test.YtlicglicfijelaaS4
import Derived.Test.YtlicglicfijelaaM41
namespace Go.Proofs.Ytlicglicfijelaa
open Go.RowKit
open Kn (E2 L2 cf tt szL exB ofL F2 sumT insT)

theorem tm2 (z : Int) : (z.tmod 2 != 0) = !decide (z % 2 = 0) := by
  have h : z.tmod 2 = 0 ↔ z % 2 = 0 := ⟨fun h => Int.emod_eq_zero_of_dvd (Int.dvd_of_tmod_eq_zero h), fun h => Int.tmod_eq_zero_of_dvd (Int.dvd_of_emod_eq_zero h)⟩
  by_cases c : z % 2 = 0
  · rw [decide_eq_true c, h.2 c]; rfl
  · rw [decide_eq_false c, bne_iff_ne.2 fun k => c (h.1 k)]; rfl
set_option maxRecDepth 100000 in
set_option maxHeartbeats 4000000 in
theorem mirlaw_any (a az : Option Addr) (n c nz cz : Nat) (px py : Int) (X Z : List Kn.Cr) (L Lz : Int) (w : World) (hx : CrsAt w a X) (hz : CrsAt w az Z) (hn : n = X.length) (hnz : nz = Z.length) (lx : n ≤ 9223372036854775807) (lz : nz ≤ 9223372036854775807) (l1 : -9223372036854775808 ≤ L) (l2 : L ≤ 9223372036854775807)
    (m1 : -9223372036854775808 ≤ Lz) (m2 : Lz ≤ 9223372036854775807) (a1 : -9223372036854775808 ≤ px) (a2 : px ≤ 9223372036854775807) (b1 : -9223372036854775808 ≤ py) (b2 : py ≤ 9223372036854775807) :
    Calls Try.prog 3 #[.agg #[.slice a n c, .int .i64 L], .int .i64 px, .agg #[.slice az nz cz, .int .i64 Lz], .int .i64 py] w (fun e w' => e = .returned (.bool true) ∧ New w w') := by
  have HN := Lib.hid hn
  have HNZ := Lib.hid hnz
  have HX := Lib.hid hx
  have HZ := Lib.hid hz
  clear hx hn hz hnz
  go_enter Try.func3, Try.ntmps3
  go_wp2_with fail
  obtain ⟨w1, HW1⟩ : ∃ w1, Hid (w1 = (w.alloc (.cells #[.slice a n c, .int .i64 L] 24)).alloc (.cells #[.slice az nz cz, .int .i64 Lz] 24)) := ⟨_, Lib.hid rfl⟩
  have HN1 : Hid (New w w1) := Lib.hid (by rw [HW1.out]; exact ((Fr.refl _ w).alloc _).alloc _)
  obtain ⟨B0, HB0⟩ : ∃ z, Hid (z = w.heap.size) := ⟨_, Lib.hid rfl⟩
  obtain ⟨B6, HB6⟩ : ∃ z, Hid (z = w.heap.size + 1) := ⟨_, Lib.hid rfl⟩
  have HA1 : Hid (w1.heap[B0]? = some (.cells #[.slice a n c, .int .i64 L] 24 (0, 0))) := Lib.hid (by
    rw [HW1.out, HB0.out]; exact ((Fr.refl (fun _ => False) _).alloc _).blk (heap_alloc_new w _) fun x => x)
  have HZ1 : Hid (w1.heap[B6]? = some (.cells #[.slice az nz cz, .int .i64 Lz] 24 (0, 0))) := Lib.hid (by
    have h0 := heap_alloc_new (w.alloc (.cells #[.slice a n c, .int .i64 L] 24)) (.cells #[.slice az nz cz, .int .i64 Lz] 24)
    rw [World.size_alloc] at h0
    rw [HW1.out, HB6.out]; exact h0)
  rw [← HW1.out, ← HB6.out, ← HB0.out]
  refine (trefoil_any w1).mono ?_
  rintro e w2 ⟨ta, tc, rfl, htx, hF⟩
  have HN2 : Hid (New w w2) := Lib.hid (HN1.out.trans hF)
  have HA2 := Lib.hid (hF.blk HA1.out fun x => x)
  have HZ2 := Lib.hid (hF.blk HZ1.out fun x => x)
  clear hF
  go_wp2_with fail
  refine (homfly_got ta 3 tc Kn.trefoil 0 w2 htx rfl (by omega) (by omega) (by omega)).mono ?_
  rintro e w3 ⟨hF, h5⟩
  obtain ⟨_, a3, m3, c3, l3, rfl, _, hm3, _, hl3⟩ := h5.resolve_right fun h => h.1 (gd_ho tref_gd).1
  obtain rfl : m3 = 3 := by rw [hm3.out]; exact tref_len hl3.out
  have HN3 : Hid (New w w3) := Lib.hid (HN2.out.trans hF)
  have HA3 := Lib.hid (hF.blk HA2.out fun x => x)
  have HZ3 := Lib.hid (hF.blk HZ2.out fun x => x)
  clear hF h5 hm3 hl3 htx
  obtain ⟨p1, p2, _, _⟩ := box2_c HA3.out
  go_wp2_with fail
  refine (homfly_got a n c X L w3 (New.crs HN3.out HX.out) HN.out lx l1 l2).mono ?_
  rintro e w4 ⟨hF, h5⟩
  have HN4 : Hid (New w w4) := Lib.hid (HN3.out.trans hF)
  have HA4 := Lib.hid (hF.blk HA3.out fun x => x)
  have HZ4 := Lib.hid (hF.blk HZ3.out fun x => x)
  clear hF p1 p2
  rcases h5 with ⟨hc, a4, np, c4, p, rfl, hnp, HNP, HPA, HP⟩ | ⟨hc, rfl⟩
  · obtain ⟨Ln, rfl, hg, hm⟩ := ho_gd hc
    have HG := Lib.hid hg
    have HM := Lib.hid hm
    clear hg hm hc
    obtain ⟨p1, p2, _, _⟩ := box2_c HA4.out
    go_wp2_with fail
    refine (mirror_any a n c X Ln w4 (New.crs HN4.out HX.out) HN.out lx l1 l2 HM.out).mono ?_
    rintro e w5 hG
    obtain ⟨a5, c5, rfl, hx5, hF⟩ := gaveMir_crs (n := n) hG (by rw [Kn.mirL_len]; exact HN.out)
    have hF6 := hF.alloc (.cells #[.slice a5 n c5, .int .i64 Ln] 24)
    have HN6 := Lib.hid (HN4.out.trans hF6)
    have HA6 := Lib.hid (hF6.blk HA4.out fun x => x)
    have HZ6 := Lib.hid (hF6.blk HZ4.out fun x => x)
    have HPA6 := Lib.hid (New.t2 hF6 HPA.out)
    have HC6 := Lib.hid (New.crs ((Fr.refl _ w5).alloc (.cells #[.slice a5 n c5, .int .i64 Ln] 24)) hx5)
    have hs6 := heap_alloc_new w5 (.cells #[.slice a5 n c5, .int .i64 Ln] 24)
    clear hF hF6 hG hx5 p1 p2
    obtain ⟨p1, p2, _, _⟩ := box2_c hs6
    go_wp2_with fail
    refine (homfly_got a5 n c5 (Kn.mirL X) Ln _ HC6.out (by rw [Kn.mirL_len]; exact HN.out) lx l1 l2).mono ?_
    rintro e w7 ⟨hF, h5⟩
    obtain ⟨_, a7, nq, c7, q, rfl, hnq, HNQ, HQA, HQ⟩ := h5.resolve_right fun h => h.1 (gd_ho (mir_gd HG.out)).1
    have HN7 := Lib.hid (HN6.out.trans hF)
    have HA7 := Lib.hid (hF.blk HA6.out fun x => x)
    have HZ7 := Lib.hid (hF.blk HZ6.out fun x => x)
    have HPA7 := Lib.hid (New.t2 hF HPA6.out)
    clear hF h5 p1 p2 hs6
    go_wp2_with fail
    go_loopw [16, 17] (fun tv iv wr => ∃ (k : Nat) (tl : L2), k ≤ nq ∧ iv = .int .i64 k ∧ tl.length ≤ k ∧ Hid (tl = turnL (q.take k)) ∧ Hid (wr.ownsRow 0 33 3 tv tl.length (tcells tl)) ∧ Hid (New w7 wr)) (fun _ iv _ => nq - (intOf iv).toNat)
    case atStart => exact ⟨0, [], by omega, rfl, Nat.le_refl _, Lib.hid rfl, Lib.hid ⟨rfl, .inl ⟨rfl, rfl⟩⟩, Lib.hid (Fr.refl _ _)⟩
    case round =>
      obtain ⟨wo, rfl⟩ : ∃ u, u = wr := ⟨_, rfl⟩
      obtain ⟨k, tl, hk, rfl, hkl, HTL, HOW, HF⟩ := hrel
      obtain ⟨at_, ct, rfl, _⟩ := own_shape2 HOW.out
      by_cases hlt : k < nq
      · have hkq : k < q.length := by have := HNQ.out; omega
        obtain ⟨b, o, rfl, x1, x2, x3⟩ := (New.t2 HF.out HQA.out).at hkq
        obtain ⟨e1, H1⟩ : ∃ z, Hid (z = (tmG q k).1.1) := ⟨_, Lib.hid rfl⟩
        obtain ⟨e2, H2⟩ : ∃ z, Hid (z = (tmG q k).1.2) := ⟨_, Lib.hid rfl⟩
        obtain ⟨e3, H3⟩ : ∃ z, Hid (z = (tmG q k).2) := ⟨_, Lib.hid rfl⟩
        rw [← H1.out] at x1
        rw [← H2.out] at x2
        rw [← H3.out] at x3
        have i1 : (0 : Int) ≤ (k : Int) := by omega
        have i2 : (k : Int) < (nq : Int) := by omega
        obtain ⟨sg, HSG⟩ : ∃ z, Hid (z = Kn.sgnZ e2) := ⟨_, Lib.hid rfl⟩
        obtain ⟨bm, HBM⟩ : ∃ b, Hid (b = (e2.tmod 2 != 0)) := ⟨_, Lib.hid rfl⟩
        have hbm : (e2.tmod 2 != 0) = bm := HBM.out.symm
        have HTR := Lib.hid (turn_ready HQ.out (mir_gd HG.out) hkq sg (by rw [HSG.out]; exact sgnZ_abs _))
        rw [← H1.out, ← H2.out, ← H3.out] at HTR
        go_upto_if 70 with fail
        go_cut [18] (fun cv wz => cv = .int .i64 sg ∧ wz = wo)
        case first =>
          cases bm
          · go_wp2
            go_meet
            exact ⟨congrArg _ (by rw [HSG.out]; unfold Kn.sgnZ; rw [if_pos (by rw [tm2] at hbm; simpa using hbm)]), rfl⟩
          · go_wp2
            go_meet
            exact ⟨congrArg _ (by rw [HSG.out]; unfold Kn.sgnZ; rw [if_neg (by rw [tm2] at hbm; simpa using hbm)]), rfl⟩
        case rest =>
          obtain ⟨rfl, rfl⟩ := hcut
          obtain ⟨f1, HF1⟩ : ∃ z, Hid (z = -e1) := ⟨_, Lib.hid rfl⟩
          have hex := (HTR.out.1 _ (List.mem_singleton.2 rfl)).1
          simp only at hex
          have w1' : IntKind.i64.wrap (-e1) = f1 := by rw [IntWalk.i64_in _ (by omega), HF1.out]
          have HW1' := Lib.hid w1'
          rw [← HF1.out] at HTR
          clear w1' hex
          go_upto_region 18 with fail
          have hSS : wc.drew.cell? ⟨b, o + k * 3, none⟩ = some (.int .i64 e1) ∧ wc.drew.cell? ⟨b, o + k * 3 + 1, none⟩ = some (.int .i64 e2) ∧ wc.drew.cell? ⟨b, o + k * 3 + 2, none⟩ = some (.int .i64 e3) := ⟨x1, x2, x3⟩
          refine wp_region_held_drew (S := fun wz => wz.cell? ⟨b, o + k * 3, none⟩ = some (.int .i64 e1) ∧ wz.cell? ⟨b, o + k * 3 + 1, none⟩ = some (.int .i64 e2) ∧ wz.cell? ⟨b, o + k * 3 + 2, none⟩ = some (.int .i64 e3)) (by kernel_rfl) hSS (fun hHeld => ?_)
          clear hSS x1 x2 x3
          obtain ⟨y0, HY0⟩ : ∃ z, Hid (z = wc.drew) := ⟨_, Lib.hid rfl⟩
          have HFy : Hid (New w7 y0) := Lib.hid (by rw [HY0.out]; exact HF.out.drew)
          have HOy : Hid (y0.ownsRow 0 33 3 (.slice at_ tl.length ct) tl.length (tcells tl)) := Lib.hid (by rw [HY0.out]; exact HOW.out)
          rw [← HY0.out] at hHeld ⊢
          refine' tkO (i := 0) ?_
          (try simp only [Act.put, lq1, lq2, lq3, lq4, lq5, lq6])
          refine' tkO (i := 1) ?_
          (try simp only [Act.put, lq1, lq2, lq3, lq4, lq5, lq6])
          refine' tkO (i := 2) ?_
          (try simp only [Act.put, lq1, lq2, lq3, lq4, lq5, lq6])
          refine' tkO (i := 3) ?_
          (try simp only [Act.put, lq1, lq2, lq3, lq4, lq5, lq6])
          refine' tkO (i := 4) ?_
          (try simp only [Act.put, lq1, lq2, lq3, lq4, lq5, lq6])
          refine' tkO (i := 5) ?_
          (try simp only [Act.put, lq1, lq2, lq3, lq4, lq5, lq6])
          refine' tkO (i := 6) ?_
          (try simp only [Act.put, lq1, lq2, lq3, lq4, lq5, lq6])
          rw [HW1'.out]
          refine' tkO (i := 7) ?_
          (try simp only [Act.put, lq1, lq2, lq3, lq4, lq5, lq6])
          refine' tkO (i := 8) ?_
          (try simp only [Act.put, lq1, lq2, lq3, lq4, lq5, lq6])
          refine' tkO (i := 9) ?_
          (try simp only [Act.put, lq1, lq2, lq3, lq4, lq5, lq6])
          refine' tkO (i := 10) ?_
          (try simp only [Act.put, lq1, lq2, lq3, lq4, lq5, lq6])
          refine' tkO (i := 11) ?_
          (try simp only [Act.put, lq1, lq2, lq3, lq4, lq5, lq6])
          refine' tkO (i := 12) ?_
          (try simp only [Act.put, lq1, lq2, lq3, lq4, lq5, lq6])
          refine' tkO (i := 13) ?_
          (try simp only [Act.put, lq1, lq2, lq3, lq4, lq5, lq6])
          refine' tkO (i := 14) ?_
          (try simp only [Act.put, lq1, lq2, lq3, lq4, lq5, lq6])
          refine' tkO (i := 15) ?_
          (try simp only [Act.put, lq1, lq2, lq3, lq4, lq5, lq6])
          refine' tkO (i := 16) ?_
          (try simp only [Act.put, lq1, lq2, lq3, lq4, lq5, lq6])
          refine' tkO (i := 17) ?_
          (try simp only [Act.put, lq1, lq2, lq3, lq4, lq5, lq6])
          refine' tkO (i := 19) ?_
          (try simp only [Act.put, lq1, lq2, lq3, lq4, lq5, lq6])
          refine rdO (i := 18) (fun K hK => ?_)
          (try simp only [lq1, lq2, lq3])
          go_simp
          obtain ⟨y1, HY1⟩ : ∃ z, Hid (z = y0.alloc (.cells #[.int .i64 f1, .int .i64 e2, .int .i64 e3] 33)) := ⟨_, Lib.hid rfl⟩
          obtain ⟨T, HT⟩ : ∃ z, Hid (z = y0.heap.size) := ⟨_, Lib.hid rfl⟩
          have hF1 : New y0 y1 := by rw [HY1.out]; exact (Fr.refl _ _).alloc _
          have hT := heap_alloc_new y0 (.cells #[.int .i64 f1, .int .i64 e2, .int .i64 e3] 33)
          rw [← HY1.out, ← HT.out] at hT
          obtain ⟨t1, t2, t3, _, _, _⟩ := three_c hT
          have HMO : Hid (T2At y1 (some ⟨T, 0, none⟩) [((f1, e2), e3)]) := Lib.hid (.inr ⟨T, 0, rfl, fun i hi => by
            obtain rfl : i = 0 := by simpa using hi
            exact ⟨t1, t2, t3⟩⟩)
          have HO1 := Lib.hid (hF1.owns HOy.out fun _ _ x => x)
          have HFy1 : Hid (New w7 y1) := Lib.hid (HFy.out.trans hF1)
          have hH2 := And.intro (hF1.cell hHeld.1 fun x => x) (And.intro (hF1.cell hHeld.2.1 fun x => x) (hF1.cell hHeld.2.2 fun x => x))
          rw [← HY1.out, ← HT.out]
          clear hT t1 t2 t3 hF1 hHeld
          refine hK.out _ _ hH2 (fun hHeld => ?_)
          clear hK K hH2
          (try simp only [Act.put, lq1, lq2, lq3, lq4, lq5, lq6])
          refine rdO (i := 20) (fun K hK => ?_)
          (try simp only [lq1, lq2, lq3])
          go_simp
          refine (sumtwo_any (.slice at_ tl.length ct) 0 tl.length tl [((f1, e2), e3)] (some ⟨T, 0, none⟩) 1 1 0 0 sg y1 HO1.out (Nat.zero_le _) rfl HMO.out rfl (by omega) HTR.out.1 (by omega) (by omega) (by rw [HTL.out]; exact HTR.out.2)).mono ?_
          rintro e y2 ⟨v', rfl, ho', hF'⟩
          have HO2 := ho'
          have HFy2 : Hid (New w7 y2) := Lib.hid (HFy1.out.trans hF')
          have hH2 := And.intro (hF'.cell hHeld.1 fun x => x) (And.intro (hF'.cell hHeld.2.1 fun x => x) (hF'.cell hHeld.2.2 fun x => x))
          clear ho' hF' hHeld
          go_wp2_with fail
          refine hK.out _ _ hH2 (fun hHeld => ?_)
          clear hK K hH2
          (try simp only [Act.put, lq1, lq2, lq3, lq4, lq5, lq6])
          refine' tkO (i := 21) ?_
          (try simp only [Act.put, lq1, lq2, lq3, lq4, lq5, lq6])
          refine wpAnyH_done (by kernel_rfl) ?_ _
          have hst : turnL (q.take (k + 1)) = sumT tl [((f1, e2), e3)] (0, 0) sg := by rw [take_snoc hkq, turnL_snoc, ← HTL.out, ← H1.out, ← H2.out, ← H3.out, ← HF1.out, ← HSG.out]
          have HST := Lib.hid hst
          clear hst
          go_wp2
          go_roundw
          case rel => exact ⟨k + 1, sumT tl [((f1, e2), e3)] (0, 0) sg, by omega, by go_num, by have := sumT_len (0, 0) sg [((f1, e2), e3)] tl; simp only [List.length_singleton] at this; omega, Lib.hid HST.out.symm, HO2, HFy2⟩
          case measure => simp [intOf]; omega
      · obtain rfl : k = nq := by omega
        have htp : tl = p := by rw [HTL.out, List.take_of_length_le (by have := HNQ.out; omega)]; exact law_mir HG.out HP.out HQ.out
        subst htp
        have hn8 : n ≤ 8 := by have := HG.out.len; have := HN.out; omega
        have HST := Lib.hid (same_yes at_ a4 tl.length np ct c4 tl wo (T2At.of_owns HOW.out rfl) (New.t2 HF.out HPA7.out) rfl HNP.out (by omega) hnp)
        go_wp2_with fail
        refine HST.out.mono ?_
        rintro e w8 ⟨rfl, hF⟩
        have hF8 : New w7 w8 := HF.out.trans hF
        have HN8 := Lib.hid (HN7.out.trans hF8)
        have HA8 := Lib.hid (hF8.blk HA7.out fun x => x)
        have HZ8 := Lib.hid (hF8.blk HZ7.out fun x => x)
        have HPA8 := Lib.hid (New.t2 hF8 HPA7.out)
        clear hF hF8 HST
        obtain ⟨p1, p2, _, _⟩ := box2_c HZ8.out
        go_wp2_with fail
        refine (homfly_got az nz cz Z Lz w8 (New.crs HN8.out HZ.out) HNZ.out lz m1 m2).mono ?_
        rintro e w9 ⟨hF, h5⟩
        have HN9 := Lib.hid (HN8.out.trans hF)
        have HA9 := Lib.hid (hF.blk HA8.out fun x => x)
        have HZ9 := Lib.hid (hF.blk HZ8.out fun x => x)
        have HPA9 := Lib.hid (New.t2 hF HPA8.out)
        clear hF p1 p2
        rcases h5 with ⟨hc2, a9, nr, c9, r, rfl, hnr, HNR, HRA, HR⟩ | ⟨hc2, rfl⟩
        · obtain ⟨Lm, rfl, hg2, hm2⟩ := ho_gd hc2
          have HG2 := Lib.hid hg2
          have HM2 := Lib.hid hm2
          have hz8 : nz ≤ 8 := by have := hg2.len; have := HNZ.out; omega
          have hL16 : Ln ≤ 16 := HG.out.few
          have hM16 : Lm ≤ 16 := hg2.few
          clear hg2 hm2 hc2
          obtain ⟨p1, p2, _, _⟩ := box2_c HA9.out
          obtain ⟨q1, q2, _, _⟩ := box2_c HZ9.out
          by_cases g1 : n = 0
          · have h1 : (n : Int) = 0 := by omega
            go_wp2
            go_ret
            exact ⟨rfl, HN9.out⟩
          have h1 : ¬ (n : Int) = 0 := by omega
          by_cases g2 : nz = 0
          · have h2 : (nz : Int) = 0 := by omega
            go_wp2
            go_ret
            exact ⟨rfl, HN9.out⟩
          have h2 : ¬ (nz : Int) = 0 := by omega
          by_cases g3 : n + nz ≤ 8
          · have h3 : ¬ 8 < (n : Int) + (nz : Int) := by omega
            have h3' : decide (8 < (n : Int) + (nz : Int)) = false := decide_eq_false h3
            by_cases g4 : Ln + Lm ≤ 16
            · have h4 : ¬ 16 < (Ln : Int) + (Lm : Int) := by omega
              have h4' : decide (16 < (Ln : Int) + (Lm : Int)) = false := decide_eq_false h4
              go_wp2_with fail
              · go_ret
                exact ⟨rfl, HN9.out⟩
              obtain ⟨mx, HMX⟩ : ∃ m, Hid (m = 2 * n) := ⟨_, Lib.hid rfl⟩
              obtain ⟨my, HMY⟩ : ∃ m, Hid (m = 2 * nz) := ⟨_, Lib.hid rfl⟩
              have hmx : mx ≤ 16 := by have := HMX.out; omega
              have hmy : my ≤ 16 := by have := HMY.out; omega
              obtain ⟨kx, hkx, hpx⟩ := picked_nat px mx a1 a2 (by have := HMX.out; omega) (by omega)
              obtain ⟨ky, hky, hpy⟩ := picked_nat py my b1 b2 (by have := HMY.out; omega) (by omega)
              have HPX := Lib.hid hpx
              have HPY := Lib.hid hpy
              clear hpx hpy
              obtain ⟨x, HXe⟩ : ∃ x, Hid (x = 1 + kx) := ⟨_, Lib.hid rfl⟩
              obtain ⟨y, HYe⟩ : ∃ x, Hid (x = 1 + ky) := ⟨_, Lib.hid rfl⟩
              obtain ⟨S, HSe⟩ : ∃ S, Hid (S = Kn.sumL X Z x y) := ⟨_, Lib.hid rfl⟩
              obtain ⟨m, HSL⟩ : ∃ m, Hid (m = (Kn.sumL X Z x y).length) := ⟨_, Lib.hid rfl⟩
              obtain ⟨Ls, HLS⟩ : ∃ m, Hid (m = Ln + Lm) := ⟨_, Lib.hid rfl⟩
              have HSL2 : Hid (m = S.length) := Lib.hid (by rw [HSL.out, HSe.out])
              have hx2 : x ≤ 2 * n := by have := HXe.out; have := HMX.out; omega
              have hy2 : y ≤ 2 * nz := by have := HYe.out; have := HMY.out; omega
              have HYtlicglicfijelaa : Hid (Kn.isArc X x) := Lib.hid ⟨by have := HXe.out; omega, by have h3 := HN.out; unfold Kn.nArcs; omega⟩
              have HYY : Hid (Kn.isArc Z y) := Lib.hid ⟨by have := HYe.out; omega, by have h3 := HNZ.out; unfold Kn.nArcs; omega⟩
              have t1 : 2 * (n : Int) = (mx : Int) := by have := HMX.out; omega
              have t1' : 2 * (nz : Int) = (my : Int) := by have := HMY.out; omega
              have t2 : IntKind.i64.wrap (mx : Int) = (mx : Int) := IntWalk.i64_in _ (by omega)
              have t2' : IntKind.i64.wrap (my : Int) = (my : Int) := IntWalk.i64_in _ (by omega)
              have t3 : 1 + (kx : Int) = (x : Int) := by have := HXe.out; omega
              have t4 : 1 + (ky : Int) = (y : Int) := by have := HYe.out; omega
              have t5 : IntKind.i64.wrap (x : Int) = (x : Int) := IntWalk.i64_in _ (by omega)
              have t6 : IntKind.i64.wrap (y : Int) = (y : Int) := IntWalk.i64_in _ (by omega)
              go_upto_region 24 with fail
              go_cut [10, 19] (fun s10 s19 wx => Hid (s10 = .int .i64 0 ∧ SumBox w9 S Ls m s19 wx))
              case first =>
                --BEGIN24
                have HF0 : Hid (New w9 w9.drew) := Lib.hid (Fr.refl _ w9).drew
                have hS0 := four_of (HF0.out.blk HA9.out fun x => x) (HF0.out.blk HZ9.out fun x => x)
                refine wp_region_held_drew (S := fun wz => wz.cell? ⟨B0, 0, none⟩ = some (.slice a n c) ∧ wz.cell? ⟨B0, 1, none⟩ = some (.int .i64 Ln) ∧ wz.cell? ⟨B6, 0, none⟩ = some (.slice az nz cz) ∧ wz.cell? ⟨B6, 1, none⟩ = some (.int .i64 Lm)) (by kernel_rfl) hS0 (fun hHeld => ?_)
                clear hS0 p1 p2 q1 q2
                generalize w9.drew = r0 at hHeld HF0 ⊢
                refine' tkO (i := 0) ?_
                (try simp only [Act.put, lq1, lq2, lq3, lq4, lq5, lq6])
                refine' tkO (i := 1) ?_
                (try simp only [Act.put, lq1, lq2, lq3, lq4, lq5, lq6])
                refine' tkO (i := 2) ?_
                (try simp only [Act.put, lq1, lq2, lq3, lq4, lq5, lq6])
                refine' tkO (i := 3) ?_
                (try simp only [Act.put, lq1, lq2, lq3, lq4, lq5, lq6])
                refine' tkO (i := 4) ?_
                (try simp only [Act.put, lq1, lq2, lq3, lq4, lq5, lq6])
                refine' tkO (i := 5) ?_
                (try simp only [Act.put, lq1, lq2, lq3, lq4, lq5, lq6])
                refine' tkO (i := 8) ?_
                (try simp only [Act.put, lq1, lq2, lq3, lq4, lq5, lq6])
                refine' tkO (i := 9) ?_
                (try simp only [Act.put, lq1, lq2, lq3, lq4, lq5, lq6])
                refine' tkO (i := 10) ?_
                (try simp only [Act.put, lq1, lq2, lq3, lq4, lq5, lq6])
                refine' tkO (i := 11) ?_
                (try simp only [Act.put, lq1, lq2, lq3, lq4, lq5, lq6])
                refine' tkO (i := 12) ?_
                (try simp only [Act.put, lq1, lq2, lq3, lq4, lq5, lq6])
                refine' tkO (i := 13) ?_
                (try simp only [Act.put, lq1, lq2, lq3, lq4, lq5, lq6])
                refine wpAnyH_ready (rs := [6, 20]) (by kernel_rfl) (by simp) ?_
                refine AllReadyH.cons rfl (fun K hK => ?_) (AllReadyH.cons rfl (fun K hK => ?_) AllReadyH.nil)
                · skip
                  (try simp only [lq1, lq2, lq3])
                  go_simp
                  refine (HPX.out _).mono ?_
                  rintro e w' ⟨rfl, hw⟩
                  rw [hw]
                  clear hw w'
                  go_wp2_with fail
                  refine hK.out _ _ (four_of (HF0.out.blk HA9.out fun x => x) (HF0.out.blk HZ9.out fun x => x)) (fun hHeld => ?_)
                  clear hK K
                  (try simp only [Act.put, lq1, lq2, lq3, lq4, lq5, lq6])
                  refine' tkO (i := 7) ?_
                  (try simp only [Act.put, lq1, lq2, lq3, lq4, lq5, lq6])
                  refine wpAnyH_ready (rs := [14, 20]) (by kernel_rfl) (by simp) ?_
                  refine AllReadyH.cons rfl (fun K hK => ?_) (AllReadyH.cons rfl (fun K hK => ?_) AllReadyH.nil)
                  · skip
                    (try simp only [lq1, lq2, lq3])
                    go_simp
                    refine (HPY.out _).mono ?_
                    rintro e w' ⟨rfl, hw⟩
                    rw [hw]
                    clear hw w'
                    go_wp2_with fail
                    refine hK.out _ _ (four_of (HF0.out.blk HA9.out fun x => x) (HF0.out.blk HZ9.out fun x => x)) (fun hHeld => ?_)
                    clear hK K
                    (try simp only [Act.put, lq1, lq2, lq3, lq4, lq5, lq6])
                    refine' tkO (i := 15) ?_
                    (try simp only [Act.put, lq1, lq2, lq3, lq4, lq5, lq6])
                    refine wpAnyH_ready (rs := [16, 20]) (by kernel_rfl) (by simp) ?_
                    refine AllReadyH.cons rfl (fun K hK => ?_) (AllReadyH.cons rfl (fun K hK => ?_) AllReadyH.nil)
                    · skip
                      (try simp only [lq1, lq2, lq3])
                      go_simp
                      refine (sum_own a az n c nz cz x y m Ln Lm Ls X Z _ (New.crs (HN9.out.trans HF0.out) HX.out) (New.crs (HN9.out.trans HF0.out) HZ.out) HN.out HNZ.out HM.out HM2.out (by omega) g4 HYtlicglicfijelaa.out.1 hx2 HYY.out.1 hy2 HSL.out HLS.out).mono ?_
                      rintro e r1 ⟨a13, c13, rfl, hown, hF⟩
                      rw [← HSe.out] at hown
                      have HOWN := Lib.hid hown
                      have HF1 := Lib.hid (HF0.out.trans hF)
                      clear hown hF
                      go_wp2_with fail
                      refine hK.out _ _ (four_of (HF1.out.blk HA9.out fun x => x) (HF1.out.blk HZ9.out fun x => x)) (fun hHeld => ?_)
                      clear hK K
                      (try simp only [Act.put, lq1, lq2, lq3, lq4, lq5, lq6])
                      refine' tkO (i := 17) ?_
                      (try simp only [Act.put, lq1, lq2, lq3, lq4, lq5, lq6])
                      refine' tkO (i := 18) ?_
                      (try simp only [Act.put, lq1, lq2, lq3, lq4, lq5, lq6])
                      refine' tkO (i := 19) ?_
                      (try simp only [Act.put, lq1, lq2, lq3, lq4, lq5, lq6])
                      refine wpAnyH_ready (rs := [20]) (by kernel_rfl) (by simp) ?_
                      refine AllReadyH.cons rfl (fun K hK => ?_) AllReadyH.nil
                      (try simp only [lq1, lq2, lq3])
                      go_simp
                      have HFz : Hid (New r1 (r1.alloc (.cells #[.slice none 0 0, .int .i64 0] 24))) := Lib.hid ((Fr.refl _ r1).alloc _)
                      have HOWNz := Lib.hid (HFz.out.owns HOWN.out fun _ _ x => x)
                      clear HOWN
                      have HOWN := HOWNz
                      clear HFz HOWNz
                      have HF2 : Hid (New w9 (r1.alloc (.cells #[.slice none 0 0, .int .i64 0] 24))) := Lib.hid (HF1.out.alloc _)
                      have HZ2 := Lib.hid (heap_alloc_new r1 (.cells #[.slice none 0 0, .int .i64 0] 24))
                      have hlt1 := HF1.out.size
                      refine hK.out _ _ (four_of (HF2.out.blk HA9.out fun x => x) (HF2.out.blk HZ9.out fun x => x)) (fun hHeld => ?_)
                      clear hK K
                      (try simp only [Act.put, lq1, lq2, lq3, lq4, lq5, lq6])
                      obtain ⟨r2, hr2⟩ : ∃ r, r = r1.alloc (.cells #[.slice none 0 0, .int .i64 0] 24) := ⟨_, rfl⟩
                      rw [← hr2] at HF2 HZ2 HOWN hHeld ⊢
                      obtain ⟨B8, HB8⟩ : ∃ B, Hid (B = r1.heap.size) := ⟨_, Lib.hid rfl⟩
                      rw [← HB8.out] at HZ2 ⊢
                      have hB8 : w9.heap.size ≤ B8 := by rw [HB8.out]; exact hlt1
                      clear hr2
                      refine wpAnyH_ready (rs := [21]) (by kernel_rfl) (by simp) ?_
                      refine AllReadyH.cons rfl (fun K hK => ?_) AllReadyH.nil
                      (try simp only [lq1, lq2, lq3])
                      obtain ⟨z1, z2, z3, z4⟩ := box2_c HZ2.out
                      have hz1 := (box2_set HZ2.out (.slice a13 m c13)).1
                      obtain ⟨_, z5, _, z6⟩ := box2_c hz1
                      clear hz1
                      go_simp
                      have HE := Lib.hid (sumBox_old (L2 := Ls) HF2.out HZ2.out hB8 HOWN.out HSL2.out)
                      have HFE := Lib.hid (show New w9 ((r2.setCell ⟨B8, 0, none⟩ (.slice a13 m c13)).setCell ⟨B8, 1, none⟩ (.int .i64 Ls)) from by obtain ⟨_, _, _, _, h, _⟩ := HE.out; exact h)
                      refine hK.out _ _ (four_of (HFE.out.blk HA9.out fun x => x) (HFE.out.blk HZ9.out fun x => x)) (fun hHeld => ?_)
                      clear hK K
                      (try simp only [Act.put, lq1, lq2, lq3, lq4, lq5, lq6])
                      refine' tkO (i := 22) ?_
                      (try simp only [Act.put, lq1, lq2, lq3, lq4, lq5, lq6])
                      refine wpAnyH_done (by kernel_rfl) ?_ _
                      go_wp2_with fail
                      go_meet
                      exact Lib.hid ⟨rfl, HE.out⟩
                    · skip
                      (try simp only [lq1, lq2, lq3])
                      go_simp
                      have HF1 : Hid (New w9 (r0.alloc (.cells #[.slice none 0 0, .int .i64 0] 24))) := Lib.hid (HF0.out.alloc _)
                      have HZ1 := Lib.hid (heap_alloc_new r0 (.cells #[.slice none 0 0, .int .i64 0] 24))
                      have hlt0 := HF0.out.size
                      refine hK.out _ _ (four_of (HF1.out.blk HA9.out fun x => x) (HF1.out.blk HZ9.out fun x => x)) (fun hHeld => ?_)
                      clear hK K
                      (try simp only [Act.put, lq1, lq2, lq3, lq4, lq5, lq6])
                      obtain ⟨r1, hr1⟩ : ∃ r, r = r0.alloc (.cells #[.slice none 0 0, .int .i64 0] 24) := ⟨_, rfl⟩
                      rw [← hr1] at HF1 HZ1 hHeld ⊢
                      obtain ⟨B8, HB8⟩ : ∃ B, Hid (B = r0.heap.size) := ⟨_, Lib.hid rfl⟩
                      rw [← HB8.out] at HZ1 ⊢
                      have hB8 : w9.heap.size ≤ B8 := by rw [HB8.out]; exact hlt0
                      clear hr1
                      refine wpAnyH_ready (rs := [16]) (by kernel_rfl) (by simp) ?_
                      refine AllReadyH.cons rfl (fun K hK => ?_) AllReadyH.nil
                      (try simp only [lq1, lq2, lq3])
                      go_simp
                      refine (sum_own a az n c nz cz x y m Ln Lm Ls X Z _ (New.crs (HN9.out.trans HF1.out) HX.out) (New.crs (HN9.out.trans HF1.out) HZ.out) HN.out HNZ.out HM.out HM2.out (by omega) g4 HYtlicglicfijelaa.out.1 hx2 HYY.out.1 hy2 HSL.out HLS.out).mono ?_
                      rintro e r2 ⟨a13, c13, rfl, hown, hF⟩
                      rw [← HSe.out] at hown
                      have HOWN := Lib.hid hown
                      have HF2 := Lib.hid (HF1.out.trans hF)
                      have HZ2 := Lib.hid (hF.blk HZ1.out fun x => x)
                      clear hown hF
                      go_wp2_with fail
                      refine hK.out _ _ (four_of (HF2.out.blk HA9.out fun x => x) (HF2.out.blk HZ9.out fun x => x)) (fun hHeld => ?_)
                      clear hK K
                      (try simp only [Act.put, lq1, lq2, lq3, lq4, lq5, lq6])
                      refine' tkO (i := 17) ?_
                      (try simp only [Act.put, lq1, lq2, lq3, lq4, lq5, lq6])
                      refine' tkO (i := 18) ?_
                      (try simp only [Act.put, lq1, lq2, lq3, lq4, lq5, lq6])
                      refine' tkO (i := 19) ?_
                      (try simp only [Act.put, lq1, lq2, lq3, lq4, lq5, lq6])
                      refine wpAnyH_ready (rs := [21]) (by kernel_rfl) (by simp) ?_
                      refine AllReadyH.cons rfl (fun K hK => ?_) AllReadyH.nil
                      (try simp only [lq1, lq2, lq3])
                      obtain ⟨z1, z2, z3, z4⟩ := box2_c HZ2.out
                      have hz1 := (box2_set HZ2.out (.slice a13 m c13)).1
                      obtain ⟨_, z5, _, z6⟩ := box2_c hz1
                      clear hz1
                      go_simp
                      have HE := Lib.hid (sumBox_old (L2 := Ls) HF2.out HZ2.out hB8 HOWN.out HSL2.out)
                      have HFE := Lib.hid (show New w9 ((r2.setCell ⟨B8, 0, none⟩ (.slice a13 m c13)).setCell ⟨B8, 1, none⟩ (.int .i64 Ls)) from by obtain ⟨_, _, _, _, h, _⟩ := HE.out; exact h)
                      refine hK.out _ _ (four_of (HFE.out.blk HA9.out fun x => x) (HFE.out.blk HZ9.out fun x => x)) (fun hHeld => ?_)
                      clear hK K
                      (try simp only [Act.put, lq1, lq2, lq3, lq4, lq5, lq6])
                      refine' tkO (i := 22) ?_
                      (try simp only [Act.put, lq1, lq2, lq3, lq4, lq5, lq6])
                      refine wpAnyH_done (by kernel_rfl) ?_ _
                      go_wp2_with fail
                      go_meet
                      exact Lib.hid ⟨rfl, HE.out⟩
                  · skip
                    (try simp only [lq1, lq2, lq3])
                    go_simp
                    have HF1 : Hid (New w9 (r0.alloc (.cells #[.slice none 0 0, .int .i64 0] 24))) := Lib.hid (HF0.out.alloc _)
                    have HZ1 := Lib.hid (heap_alloc_new r0 (.cells #[.slice none 0 0, .int .i64 0] 24))
                    have hlt0 := HF0.out.size
                    refine hK.out _ _ (four_of (HF1.out.blk HA9.out fun x => x) (HF1.out.blk HZ9.out fun x => x)) (fun hHeld => ?_)
                    clear hK K
                    (try simp only [Act.put, lq1, lq2, lq3, lq4, lq5, lq6])
                    obtain ⟨r1, hr1⟩ : ∃ r, r = r0.alloc (.cells #[.slice none 0 0, .int .i64 0] 24) := ⟨_, rfl⟩
                    rw [← hr1] at HF1 HZ1 hHeld ⊢
                    obtain ⟨B8, HB8⟩ : ∃ B, Hid (B = r0.heap.size) := ⟨_, Lib.hid rfl⟩
                    rw [← HB8.out] at HZ1 ⊢
                    have hB8 : w9.heap.size ≤ B8 := by rw [HB8.out]; exact hlt0
                    clear hr1
                    refine wpAnyH_ready (rs := [14]) (by kernel_rfl) (by simp) ?_
                    refine AllReadyH.cons rfl (fun K hK => ?_) AllReadyH.nil
                    (try simp only [lq1, lq2, lq3])
                    go_simp
                    refine (HPY.out _).mono ?_
                    rintro e w' ⟨rfl, hw⟩
                    rw [hw]
                    clear hw w'
                    go_wp2_with fail
                    refine hK.out _ _ (four_of (HF1.out.blk HA9.out fun x => x) (HF1.out.blk HZ9.out fun x => x)) (fun hHeld => ?_)
                    clear hK K
                    (try simp only [Act.put, lq1, lq2, lq3, lq4, lq5, lq6])
                    refine' tkO (i := 15) ?_
                    (try simp only [Act.put, lq1, lq2, lq3, lq4, lq5, lq6])
                    refine wpAnyH_ready (rs := [16]) (by kernel_rfl) (by simp) ?_
                    refine AllReadyH.cons rfl (fun K hK => ?_) AllReadyH.nil
                    (try simp only [lq1, lq2, lq3])
                    go_simp
                    refine (sum_own a az n c nz cz x y m Ln Lm Ls X Z _ (New.crs (HN9.out.trans HF1.out) HX.out) (New.crs (HN9.out.trans HF1.out) HZ.out) HN.out HNZ.out HM.out HM2.out (by omega) g4 HYtlicglicfijelaa.out.1 hx2 HYY.out.1 hy2 HSL.out HLS.out).mono ?_
                    rintro e r2 ⟨a13, c13, rfl, hown, hF⟩
                    rw [← HSe.out] at hown
                    have HOWN := Lib.hid hown
                    have HF2 := Lib.hid (HF1.out.trans hF)
                    have HZ2 := Lib.hid (hF.blk HZ1.out fun x => x)
                    clear hown hF
                    go_wp2_with fail
                    refine hK.out _ _ (four_of (HF2.out.blk HA9.out fun x => x) (HF2.out.blk HZ9.out fun x => x)) (fun hHeld => ?_)
                    clear hK K
                    (try simp only [Act.put, lq1, lq2, lq3, lq4, lq5, lq6])
                    refine' tkO (i := 17) ?_
                    (try simp only [Act.put, lq1, lq2, lq3, lq4, lq5, lq6])
                    refine' tkO (i := 18) ?_
                    (try simp only [Act.put, lq1, lq2, lq3, lq4, lq5, lq6])
                    refine' tkO (i := 19) ?_
                    (try simp only [Act.put, lq1, lq2, lq3, lq4, lq5, lq6])
                    refine wpAnyH_ready (rs := [21]) (by kernel_rfl) (by simp) ?_
                    refine AllReadyH.cons rfl (fun K hK => ?_) AllReadyH.nil
                    (try simp only [lq1, lq2, lq3])
                    obtain ⟨z1, z2, z3, z4⟩ := box2_c HZ2.out
                    have hz1 := (box2_set HZ2.out (.slice a13 m c13)).1
                    obtain ⟨_, z5, _, z6⟩ := box2_c hz1
                    clear hz1
                    go_simp
                    have HE := Lib.hid (sumBox_old (L2 := Ls) HF2.out HZ2.out hB8 HOWN.out HSL2.out)
                    have HFE := Lib.hid (show New w9 ((r2.setCell ⟨B8, 0, none⟩ (.slice a13 m c13)).setCell ⟨B8, 1, none⟩ (.int .i64 Ls)) from by obtain ⟨_, _, _, _, h, _⟩ := HE.out; exact h)
                    refine hK.out _ _ (four_of (HFE.out.blk HA9.out fun x => x) (HFE.out.blk HZ9.out fun x => x)) (fun hHeld => ?_)
                    clear hK K
                    (try simp only [Act.put, lq1, lq2, lq3, lq4, lq5, lq6])
                    refine' tkO (i := 22) ?_
                    (try simp only [Act.put, lq1, lq2, lq3, lq4, lq5, lq6])
                    refine wpAnyH_done (by kernel_rfl) ?_ _
                    go_wp2_with fail
                    go_meet
                    exact Lib.hid ⟨rfl, HE.out⟩
                · skip
                  (try simp only [lq1, lq2, lq3])
                  go_simp
                  have HF1 : Hid (New w9 (r0.alloc (.cells #[.slice none 0 0, .int .i64 0] 24))) := Lib.hid (HF0.out.alloc _)
                  have HZ1 := Lib.hid (heap_alloc_new r0 (.cells #[.slice none 0 0, .int .i64 0] 24))
                  have hlt0 := HF0.out.size
                  refine hK.out _ _ (four_of (HF1.out.blk HA9.out fun x => x) (HF1.out.blk HZ9.out fun x => x)) (fun hHeld => ?_)
                  clear hK K
                  (try simp only [Act.put, lq1, lq2, lq3, lq4, lq5, lq6])
                  obtain ⟨r1, hr1⟩ : ∃ r, r = r0.alloc (.cells #[.slice none 0 0, .int .i64 0] 24) := ⟨_, rfl⟩
                  rw [← hr1] at HF1 HZ1 hHeld ⊢
                  obtain ⟨B8, HB8⟩ : ∃ B, Hid (B = r0.heap.size) := ⟨_, Lib.hid rfl⟩
                  rw [← HB8.out] at HZ1 ⊢
                  have hB8 : w9.heap.size ≤ B8 := by rw [HB8.out]; exact hlt0
                  clear hr1
                  refine wpAnyH_ready (rs := [6]) (by kernel_rfl) (by simp) ?_
                  refine AllReadyH.cons rfl (fun K hK => ?_) AllReadyH.nil
                  (try simp only [lq1, lq2, lq3])
                  go_simp
                  refine (HPX.out _).mono ?_
                  rintro e w' ⟨rfl, hw⟩
                  rw [hw]
                  clear hw w'
                  go_wp2_with fail
                  refine hK.out _ _ (four_of (HF1.out.blk HA9.out fun x => x) (HF1.out.blk HZ9.out fun x => x)) (fun hHeld => ?_)
                  clear hK K
                  (try simp only [Act.put, lq1, lq2, lq3, lq4, lq5, lq6])
                  refine' tkO (i := 7) ?_
                  (try simp only [Act.put, lq1, lq2, lq3, lq4, lq5, lq6])
                  refine wpAnyH_ready (rs := [14]) (by kernel_rfl) (by simp) ?_
                  refine AllReadyH.cons rfl (fun K hK => ?_) AllReadyH.nil
                  (try simp only [lq1, lq2, lq3])
                  go_simp
                  refine (HPY.out _).mono ?_
                  rintro e w' ⟨rfl, hw⟩
                  rw [hw]
                  clear hw w'
                  go_wp2_with fail
                  refine hK.out _ _ (four_of (HF1.out.blk HA9.out fun x => x) (HF1.out.blk HZ9.out fun x => x)) (fun hHeld => ?_)
                  clear hK K
                  (try simp only [Act.put, lq1, lq2, lq3, lq4, lq5, lq6])
                  refine' tkO (i := 15) ?_
                  (try simp only [Act.put, lq1, lq2, lq3, lq4, lq5, lq6])
                  refine wpAnyH_ready (rs := [16]) (by kernel_rfl) (by simp) ?_
                  refine AllReadyH.cons rfl (fun K hK => ?_) AllReadyH.nil
                  (try simp only [lq1, lq2, lq3])
                  go_simp
                  refine (sum_own a az n c nz cz x y m Ln Lm Ls X Z _ (New.crs (HN9.out.trans HF1.out) HX.out) (New.crs (HN9.out.trans HF1.out) HZ.out) HN.out HNZ.out HM.out HM2.out (by omega) g4 HYtlicglicfijelaa.out.1 hx2 HYY.out.1 hy2 HSL.out HLS.out).mono ?_
                  rintro e r2 ⟨a13, c13, rfl, hown, hF⟩
                  rw [← HSe.out] at hown
                  have HOWN := Lib.hid hown
                  have HF2 := Lib.hid (HF1.out.trans hF)
                  have HZ2 := Lib.hid (hF.blk HZ1.out fun x => x)
                  clear hown hF
                  go_wp2_with fail
                  refine hK.out _ _ (four_of (HF2.out.blk HA9.out fun x => x) (HF2.out.blk HZ9.out fun x => x)) (fun hHeld => ?_)
                  clear hK K
                  (try simp only [Act.put, lq1, lq2, lq3, lq4, lq5, lq6])
                  refine' tkO (i := 17) ?_
                  (try simp only [Act.put, lq1, lq2, lq3, lq4, lq5, lq6])
                  refine' tkO (i := 18) ?_
                  (try simp only [Act.put, lq1, lq2, lq3, lq4, lq5, lq6])
                  refine' tkO (i := 19) ?_
                  (try simp only [Act.put, lq1, lq2, lq3, lq4, lq5, lq6])
                  refine wpAnyH_ready (rs := [21]) (by kernel_rfl) (by simp) ?_
                  refine AllReadyH.cons rfl (fun K hK => ?_) AllReadyH.nil
                  (try simp only [lq1, lq2, lq3])
                  obtain ⟨z1, z2, z3, z4⟩ := box2_c HZ2.out
                  have hz1 := (box2_set HZ2.out (.slice a13 m c13)).1
                  obtain ⟨_, z5, _, z6⟩ := box2_c hz1
                  clear hz1
                  go_simp
                  have HE := Lib.hid (sumBox_old (L2 := Ls) HF2.out HZ2.out hB8 HOWN.out HSL2.out)
                  have HFE := Lib.hid (show New w9 ((r2.setCell ⟨B8, 0, none⟩ (.slice a13 m c13)).setCell ⟨B8, 1, none⟩ (.int .i64 Ls)) from by obtain ⟨_, _, _, _, h, _⟩ := HE.out; exact h)
                  refine hK.out _ _ (four_of (HFE.out.blk HA9.out fun x => x) (HFE.out.blk HZ9.out fun x => x)) (fun hHeld => ?_)
                  clear hK K
                  (try simp only [Act.put, lq1, lq2, lq3, lq4, lq5, lq6])
                  refine' tkO (i := 22) ?_
                  (try simp only [Act.put, lq1, lq2, lq3, lq4, lq5, lq6])
                  refine wpAnyH_done (by kernel_rfl) ?_ _
                  go_wp2_with fail
                  go_meet
                  exact Lib.hid ⟨rfl, HE.out⟩
                --END24
              case rest =>
                --MARKC
                obtain ⟨rfl, Bs, as_, cs, rfl, hF, hbs, hxs⟩ := Hid.out hcut
                obtain ⟨wA, rfl⟩ : ∃ u, u = wc := ⟨_, rfl⟩
                have hso := Kn.sumL_of HG.out.ok HG2.out.ok HYtlicglicfijelaa.out HYY.out
                rw [← HSe.out] at hso
                have HSO := Lib.hid hso
                have h8' : X.length + Z.length ≤ 8 := by have := HN.out; have := HNZ.out; omega
                have HG3 : Hid (Gd S Ls) := Lib.hid (by rw [HLS.out]; exact prod_len hso HG.out HG2.out HYtlicglicfijelaa.out HYY.out h8' g4)
                have hm16 : m ≤ 16 := by have := HSL2.out; have := hso.len; omega
                have hls : Ls ≤ 16 := by have := HLS.out; omega
                have HNA := Lib.hid (HN9.out.trans hF)
                have HPA10 := Lib.hid (New.t2 hF HPA9.out)
                have HRA10 := Lib.hid (New.t2 hF HRA.out)
                have HXS := Lib.hid hxs
                have HBS := Lib.hid hbs
                have H8 := Lib.hid h8'
                clear hcut hso hF hxs hbs h8'
                obtain ⟨p1, p2, _, _⟩ := box2_c HBS.out
                go_wp2_with fail
                refine (homfly_got as_ m cs S Ls wA HXS.out HSL2.out (by omega) (by omega) (by omega)).mono ?_
                rintro e wB ⟨hF, h5⟩
                obtain ⟨_, a20, ns, c20, s, rfl, hns, HNS, HSA, HSF⟩ := h5.resolve_right fun h => h.1 (gd_ho HG3.out).1
                have HNB := Lib.hid (HNA.out.trans hF)
                have HPA11 := Lib.hid (New.t2 hF HPA10.out)
                have HRA11 := Lib.hid (New.t2 hF HRA10.out)
                clear hF h5 p1 p2
                have HLAW : Hid (prodL tl r = s) := Lib.hid (law_sum HSO.out HG.out HG2.out HYtlicglicfijelaa.out HYY.out H8.out g4 HP.out HR.out (by rw [← HLS.out]; exact HSF.out))
                go_wp2_with fail
                go_loopw [21, 22] (fun tv iv wr => ∃ (k2 : Nat) (pl : L2), k2 ≤ nr ∧ iv = .int .i64 k2 ∧ Hid (pl = prodL tl (r.take k2)) ∧ Hid (wr.ownsRow 0 33 3 tv pl.length (tcells pl)) ∧ Hid (New wB wr)) (fun _ iv _ => nr - (intOf iv).toNat)
                case atStart => exact ⟨0, [], by omega, rfl, Lib.hid rfl, Lib.hid ⟨rfl, .inl ⟨rfl, rfl⟩⟩, Lib.hid (Fr.refl _ _)⟩
                case round =>
                  obtain ⟨wr2, rfl⟩ : ∃ u, u = wr := ⟨_, rfl⟩
                  obtain ⟨k2, pl, hk2, rfl, HTL2, HOW2, HF2⟩ := hrel
                  obtain ⟨at2, ct2, rfl, _⟩ := own_shape2 HOW2.out
                  by_cases hlt2 : k2 < nr
                  · have hkr : k2 < r.length := by have := HNR.out; omega
                    obtain ⟨b, o, rfl, x1, x2, x3⟩ := (New.t2 HF2.out HRA11.out).at hkr
                    obtain ⟨e1, H1⟩ : ∃ z, Hid (z = (tmG r k2).1.1) := ⟨_, Lib.hid rfl⟩
                    obtain ⟨e2, H2⟩ : ∃ z, Hid (z = (tmG r k2).1.2) := ⟨_, Lib.hid rfl⟩
                    obtain ⟨e3, H3⟩ : ∃ z, Hid (z = (tmG r k2).2) := ⟨_, Lib.hid rfl⟩
                    rw [← H1.out] at x1
                    rw [← H2.out] at x2
                    rw [← H3.out] at x3
                    have i1 : (0 : Int) ≤ (k2 : Int) := by omega
                    have i2 : (k2 : Int) < (nr : Int) := by omega
                    have hpr := prod_ready HP.out HR.out HG.out HG2.out H8.out g4 hkr
                    rw [← H1.out, ← H2.out, ← H3.out, ← HTL2.out, ← HNP.out] at hpr
                    have HPR := Lib.hid hpr
                    clear hpr
                    go_upto_region 30 with fail
                    have hSS : wr2.drew.cell? ⟨b, o + k2 * 3, none⟩ = some (.int .i64 e1) ∧ wr2.drew.cell? ⟨b, o + k2 * 3 + 1, none⟩ = some (.int .i64 e2) ∧ wr2.drew.cell? ⟨b, o + k2 * 3 + 2, none⟩ = some (.int .i64 e3) := ⟨x1, x2, x3⟩
                    refine wp_region_held_drew (S := fun wz => wz.cell? ⟨b, o + k2 * 3, none⟩ = some (.int .i64 e1) ∧ wz.cell? ⟨b, o + k2 * 3 + 1, none⟩ = some (.int .i64 e2) ∧ wz.cell? ⟨b, o + k2 * 3 + 2, none⟩ = some (.int .i64 e3)) (by kernel_rfl) hSS (fun hHeld => ?_)
                    clear hSS x1 x2 x3
                    obtain ⟨y0, HY0⟩ : ∃ z, Hid (z = wr2.drew) := ⟨_, Lib.hid rfl⟩
                    have HFy : Hid (New wB y0) := Lib.hid (by rw [HY0.out]; exact HF2.out.drew)
                    have HOy : Hid (y0.ownsRow 0 33 3 (.slice at2 pl.length ct2) pl.length (tcells pl)) := Lib.hid (by rw [HY0.out]; exact HOW2.out)
                    rw [← HY0.out] at hHeld ⊢
                    refine' tkO (i := 0) ?_
                    (try simp only [Act.put, lq1, lq2, lq3, lq4, lq5, lq6])
                    refine' tkO (i := 1) ?_
                    (try simp only [Act.put, lq1, lq2, lq3, lq4, lq5, lq6])
                    refine' tkO (i := 2) ?_
                    (try simp only [Act.put, lq1, lq2, lq3, lq4, lq5, lq6])
                    refine' tkO (i := 3) ?_
                    (try simp only [Act.put, lq1, lq2, lq3, lq4, lq5, lq6])
                    refine' tkO (i := 4) ?_
                    (try simp only [Act.put, lq1, lq2, lq3, lq4, lq5, lq6])
                    refine' tkO (i := 5) ?_
                    (try simp only [Act.put, lq1, lq2, lq3, lq4, lq5, lq6])
                    refine' tkO (i := 6) ?_
                    (try simp only [Act.put, lq1, lq2, lq3, lq4, lq5, lq6])
                    refine' tkO (i := 7) ?_
                    (try simp only [Act.put, lq1, lq2, lq3, lq4, lq5, lq6])
                    refine' tkO (i := 8) ?_
                    (try simp only [Act.put, lq1, lq2, lq3, lq4, lq5, lq6])
                    refine' tkO (i := 9) ?_
                    (try simp only [Act.put, lq1, lq2, lq3, lq4, lq5, lq6])
                    refine' tkO (i := 10) ?_
                    (try simp only [Act.put, lq1, lq2, lq3, lq4, lq5, lq6])
                    refine' tkO (i := 11) ?_
                    (try simp only [Act.put, lq1, lq2, lq3, lq4, lq5, lq6])
                    refine' tkO (i := 12) ?_
                    (try simp only [Act.put, lq1, lq2, lq3, lq4, lq5, lq6])
                    refine' tkO (i := 13) ?_
                    (try simp only [Act.put, lq1, lq2, lq3, lq4, lq5, lq6])
                    refine' tkO (i := 14) ?_
                    (try simp only [Act.put, lq1, lq2, lq3, lq4, lq5, lq6])
                    refine' tkO (i := 15) ?_
                    (try simp only [Act.put, lq1, lq2, lq3, lq4, lq5, lq6])
                    refine' tkO (i := 16) ?_
                    (try simp only [Act.put, lq1, lq2, lq3, lq4, lq5, lq6])
                    refine rdO (i := 17) (fun K hK => ?_)
                    (try simp only [lq1, lq2, lq3])
                    go_simp
                    refine (sumtwo_any (.slice at2 pl.length ct2) 0 pl.length pl tl a4 np c4 e1 e2 e3 y0 HOy.out (Nat.zero_le _) rfl (New.t2 HFy.out HPA11.out) HNP.out HPR.out.1 HPR.out.2.1 (by have := HPR.out; omega) (by have := HPR.out; omega) HPR.out.2.2.2.2).mono ?_
                    rintro e y2 ⟨v', rfl, ho', hF'⟩
                    have HO2 := ho'
                    have HFy2 : Hid (New wB y2) := Lib.hid (HFy.out.trans hF')
                    have hH2 := And.intro (hF'.cell hHeld.1 fun x => x) (And.intro (hF'.cell hHeld.2.1 fun x => x) (hF'.cell hHeld.2.2 fun x => x))
                    clear ho' hF' hHeld
                    go_wp2_with fail
                    refine hK.out _ _ hH2 (fun hHeld => ?_)
                    clear hK K hH2
                    (try simp only [Act.put, lq1, lq2, lq3, lq4, lq5, lq6])
                    refine' tkO (i := 18) ?_
                    (try simp only [Act.put, lq1, lq2, lq3, lq4, lq5, lq6])
                    refine wpAnyH_done (by kernel_rfl) ?_ _
                    have HST2 : Hid (prodL tl (r.take (k2 + 1)) = sumT pl tl (e1, e2) e3) := Lib.hid (by rw [take_snoc hkr, prodL_snoc, ← HTL2.out, H1.out, H2.out, H3.out])
                    go_wp2
                    go_roundw
                    case rel => exact ⟨k2 + 1, sumT pl tl (e1, e2) e3, by omega, by go_num, Lib.hid HST2.out.symm, HO2, HFy2⟩
                    case measure => simp [intOf]; omega
                  · obtain rfl : k2 = nr := by omega
                    have hps : pl = s := by rw [HTL2.out, List.take_of_length_le (by have := HNR.out; omega)]; exact HLAW.out
                    subst hps
                    have HEQ := Lib.hid (same_yes a20 at2 ns pl.length c20 ct2 pl wr2 (New.t2 HF2.out HSA.out) (T2At.of_owns HOW2.out rfl) HNS.out rfl hns (by rw [← HNS.out]; exact hns))
                    have HFx := Lib.hid (HNB.out.trans HF2.out)
                    go_wp2_with fail
                    refine HEQ.out.mono ?_
                    rintro e wE ⟨rfl, hF⟩
                    go_wp2
                    go_ret
                    exact ⟨rfl, HFx.out.trans hF⟩
                --ENDC
            · have h4 : 16 < (Ln : Int) + (Lm : Int) := by omega
              have h4' : decide (16 < (Ln : Int) + (Lm : Int)) = true := decide_eq_true h4
              go_wp2
              all_goals (go_ret; exact ⟨rfl, HN9.out⟩)
          · have h3 : 8 < (n : Int) + (nz : Int) := by omega
            have h3' : decide (8 < (n : Int) + (nz : Int)) = true := decide_eq_true h3
            go_wp2
            go_ret
            exact ⟨rfl, HN9.out⟩
        · obtain ⟨q5, HQ5⟩ : ∃ q, Hid (q = hoC Z Lz) := ⟨_, Lib.hid rfl⟩
          rw [← HQ5.out] at hc2
          have hq : ((q5 : Int) == 0) = false := by simp; exact hc2
          have hq2 : ((q5 : Int) != 0) = true := by simp; exact hc2
          clear hc2
          rw [← HQ5.out]
          go_wp2
          go_ret
          exact ⟨rfl, HN9.out⟩
  · obtain ⟨q, HQ⟩ : ∃ q, Hid (q = hoC X L) := ⟨_, Lib.hid rfl⟩
    rw [← HQ.out] at hc
    have hq : ((q : Int) == 0) = false := by simp; exact hc
    have hq2 : ((q : Int) != 0) = true := by simp; exact hc
    clear hc
    rw [← HQ.out]
    go_wp2
    go_ret
    exact ⟨rfl, HN4.out⟩
end Go.Proofs.Ytlicglicfijelaa
