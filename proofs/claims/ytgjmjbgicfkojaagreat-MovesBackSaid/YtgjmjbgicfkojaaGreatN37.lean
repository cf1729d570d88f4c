/- Walks: slidesBack: some slide at a face of the same arcs gives what was. -/
import Derived.Test.YtgjmjbgicfkojaaGreatTK
import Derived.Test.YtgjmjbgicfkojaaGreatW33
import Derived.Test.YtgjmjbgicfkojaaGreatN36b
namespace Go.Proofs.YtgjmjbgicfkojaaGreat
open Go.RowKit

set_option maxRecDepth 100000 in
theorem alike2_any (a a' : Option Addr) (n n' c c' : Nat) (X Y : List Kn.Cr) (L : Int) (w : World) (hx : CrsAt w a X) (hy : CrsAt w a' Y) (hn : n = X.length) (hn' : n' = Y.length) (hm : Kn.mayB X L = true) (hm' : Kn.mayB Y L = true) (l1 : -9223372036854775808 ≤ L) (l2 : L ≤ 9223372036854775807) :
    Calls Tryz.prog 8 #[.agg #[.slice a n c, .int .i64 L], .agg #[.slice a' n' c', .int .i64 L]] w (fun e w' => e = .returned (.bool (decide (Kn.formL X = Kn.formL Y))) ∧ New w w') := by
  have HN := Lib.hid hn; have HN' := Lib.hid hn'; have HX := Lib.hid hx; have HY := Lib.hid hy; have HM := Lib.hid hm; have HM' := Lib.hid hm'; clear hx hy hn hn' hm hm'
  obtain ⟨p, HP⟩ : ∃ p, Hid (decide (Kn.formL X = Kn.formL Y) = p) := ⟨_, Lib.hid rfl⟩
  rw [HP.out]
  go_enter Tryz.func8, Tryz.ntmps8
  go_wp2_with fail; refine (same_any a a' n n' c c' X Y L _ (New.crs (((Fr.refl _ w).alloc _).alloc _) HX.out) (New.crs (((Fr.refl _ w).alloc _).alloc _) HY.out) HN.out HN'.out HM.out HM'.out l1 l2).mono ?_; rintro e w1 ⟨rfl, hF⟩; rw [HP.out]; have HF := Lib.hid ((((Fr.refl _ w).alloc _).alloc _).trans hF); clear hF
  cases p
  · go_wp2
    go_ret
    exact ⟨rfl, HF.out⟩
  · go_wp2
    go_ret
    exact ⟨rfl, HF.out⟩
theorem doO_good {X : List Kn.Cr} {L : Int} (h : Good X L) (o : Out) : doO X L o = o := by
  unfold doO
  rw [h.1, h.2]; rfl
theorem slideO_cases {X : List Kn.Cr} {L : Int} (i : Int) : slideO X L i = .no 3 ∨ slideO X L i = .no 8 ∨ ∃ Z, slideO X L i = .ok Z L := by
  unfold slideO
  split
  · split
    · exact .inr (.inr ⟨_, rfl⟩)
    · exact .inr (.inl rfl)
  · exact .inl rfl
def thereB (f : List Kn.Dt) (x : Nat) : Bool := f.any fun e => decide (e.1 = x)
def okF (f g : List Kn.Dt) : Bool := decide (g.length = 3) && g.all fun d => thereB f d.1
theorem there_step (f : List Kn.Dt) (x m : Nat) (hm : m < f.length) : thereB (f.take (m + 1)) x = (thereB (f.take m) x || decide (f[m].1 = x)) := by
  unfold thereB
  rw [List.take_succ_eq_append_getElem hm, List.any_append, List.any_cons, List.any_nil, Bool.or_false]
theorem okF_step (f g : List Kn.Dt) (b : Bool) (j : Nat) (hj : j < g.length) : (b && (g.take (j + 1)).all fun d => thereB f d.1) = ((b && (g.take j).all fun d => thereB f d.1) && thereB f (g[j]).1) := by
  rw [List.take_succ_eq_append_getElem hj, List.all_append, List.all_cons, List.all_nil, Bool.and_true, Bool.and_assoc]
set_option maxRecDepth 100000 in
set_option maxHeartbeats 2000000 in
theorem sback_any (a a' : Option Addr) (n n' c c' : Nat) (X Y : List Kn.Cr) (L i : Int) (w : World) (hx : CrsAt w a X) (hy : CrsAt w a' Y) (hn : n = X.length) (hn' : n' = Y.length) (hg : Good X L) (h : slideO X L i = .ok Y L) :
    Calls Tryz.prog 9 #[.agg #[.slice a n c, .int .i64 L], .agg #[.slice a' n' c', .int .i64 L], .int .i64 i] w (fun e w' => e = .returned (.bool true) ∧ New w w') := by
  obtain ⟨hgy, hlen, hLL, hi0, hi1, K, hK, hsl, hl3, hth⟩ := slideO_back hg h; clear hlen hLL
  obtain ⟨ff, HFF⟩ : ∃ ff, Hid (ff = Kn.facesL X) := ⟨_, Lib.hid rfl⟩
  obtain ⟨gg, HGG⟩ : ∃ gg, Hid (gg = Kn.facesL Y) := ⟨_, Lib.hid rfl⟩
  rw [← HFF.out] at hi1; rw [← HGG.out] at hK hl3 hth
  obtain ⟨an, rfl⟩ : ∃ n : Nat, i = n := ⟨i.toNat, by omega⟩
  have han : an < ff.length := by omega
  obtain ⟨f, HF⟩ : ∃ f, Hid (f = ff[an]) := ⟨_, Lib.hid rfl⟩
  have hfa : faceAt X ((an : Nat) : Int) = f := by
    unfold faceAt
    rw [Int.toNat_natCast, ← HFF.out, List.getD_eq_getElem?_getD, List.getElem?_eq_getElem han, HF.out]; rfl
  rw [hfa] at hth; rw [List.getD_eq_getElem?_getD, List.getElem?_eq_getElem hK, Option.getD_some] at hl3 hth
  have HOK : Hid (okF f gg[K] = true) := Lib.hid (by
    unfold okF
    rw [decide_eq_true hl3, Bool.true_and, List.all_eq_true]
    intro d hd
    obtain ⟨e, he, e1⟩ := hth d hd
    exact List.any_eq_true.2 ⟨e, he, decide_eq_true e1⟩)
  have HSL := Lib.hid hsl; obtain ⟨hX, hl, l1, l2⟩ := hg.b; obtain ⟨hY, hl', _, _⟩ := hgy.b; have fX := facesOk hX hl; have fY := facesOk hY hl'; rw [← HFF.out] at fX; rw [← HGG.out] at fY; have HFX := Lib.hid fX; have HFY := Lib.hid fY; have HX := Lib.hid hx; have HY := Lib.hid hy; have HN := Lib.hid hn; have HN' := Lib.hid hn'; have HG := Lib.hid hg; have HGY := Lib.hid hgy; clear hx hy hn hn' hg hgy h hth hl3 hfa hsl hX hY fX fY
  obtain ⟨w0, HW0⟩ : ∃ w0, Hid (w0 = (w.alloc (.cells #[.slice a n c, .int .i64 L] 24)).alloc (.cells #[.slice a' n' c', .int .i64 L] 24)) := ⟨_, Lib.hid rfl⟩
  obtain ⟨B3, HB3⟩ : ∃ B, Hid (B = w.heap.size) := ⟨_, Lib.hid rfl⟩
  obtain ⟨B4, HB4⟩ : ∃ B, Hid (B = w.heap.size + 1) := ⟨_, Lib.hid rfl⟩
  have HN0 : Hid (New w w0) := Lib.hid (by rw [HW0.out]; exact ((Fr.refl _ w).alloc _).alloc _)
  have HX0 : Hid (w0.heap[B3]? = some (.cells #[.slice a n c, .int .i64 L] 24 (0, 0))) := Lib.hid (by
    rw [HW0.out, HB3.out]
    exact ((Fr.refl (fun _ => False) _).alloc _).blk (heap_alloc_new w _) fun x => x)
  have HY0 : Hid (w0.heap[B4]? = some (.cells #[.slice a' n' c', .int .i64 L] 24 (0, 0))) := Lib.hid (by
    have h := heap_alloc_new (w.alloc (.cells #[.slice a n c, .int .i64 L] 24)) (.cells #[.slice a' n' c', .int .i64 L] 24); rw [World.size_alloc] at h
    rw [HW0.out, HB4.out]; exact h)
  obtain ⟨nf, HNF⟩ : ∃ n, Hid (n = ff.length) := ⟨_, Lib.hid rfl⟩
  obtain ⟨ng, HNG⟩ : ∃ n, Hid (n = gg.length) := ⟨_, Lib.hid rfl⟩
  have hnf : nf ≤ 64 := by rw [HNF.out]; exact HFX.out.1
  have hng : ng ≤ 64 := by rw [HNG.out]; exact HFY.out.1
  have i1 : ¬ ((an : Nat) : Int) < 0 := by omega
  have i2 : ¬ ((nf : Nat) : Int) ≤ (an : Nat) := by have := HNF.out; omega
  have hi2 : ((an : Nat) : Int) < (nf : Nat) := by have := HNF.out; omega
  have hd1 : decide (((an : Nat) : Int) < 0) = false := decide_eq_false i1; have hd2 : decide (nf ≤ an) = false := decide_eq_false (by have := HNF.out; omega); obtain ⟨x0, x1, _, _⟩ := box2_c HX0.out
  go_enter Tryz.func9, Tryz.ntmps9
  go_wp2_with fail; rw [← HW0.out, ← HB4.out, ← HB3.out]; clear HW0 HB4; refine (cfaces_any a n c X L _ (New.crs HN0.out HX.out) HN.out (by rw [HN.out]; omega) (by omega) (by omega)).mono ?_; rintro e w1 ⟨hN, h5⟩; obtain ⟨_, v, rfl, hr⟩ := h5.resolve_right (fun h => by have h1 := h.1; rw [HG.out.1] at h1; cases h1); obtain ⟨fa, fc, rfl⟩ := hr.sl; rw [← HFF.out] at hr; rw [← HFF.out, ← HNF.out]; have HR1 := Lib.hid (Rows.base0 hr); rw [← HNF.out] at HR1; have HN1 := Lib.hid (HN0.out.trans hN); have HX1 := Lib.hid (hN.blk HX0.out fun x => x); have HY1 := Lib.hid (hN.blk HY0.out fun x => x)
  clear hr hN HN0 HX0 HY0 h5 x0 x1; obtain ⟨y0, y1, _, _⟩ := box2_c HY1.out; go_wp2_with fail; clear y0 y1; refine (cfaces_any a' n' c' Y L _ (New.crs HN1.out HY.out) HN'.out (by rw [HN'.out]; omega) (by omega) (by omega)).mono ?_; rintro e w2 ⟨hN, h5⟩; obtain ⟨_, v, rfl, hr⟩ := h5.resolve_right (fun h => by have h1 := h.1; rw [HGY.out.1] at h1; cases h1); obtain ⟨ga, gc, rfl⟩ := hr.sl; rw [← HGG.out] at hr; rw [← HGG.out, ← HNG.out]; have HQ2 := Lib.hid (Rows.base0 hr); rw [← HNG.out] at HQ2; have HR2 := Lib.hid (RowsD.new HR1.out hN); have HN2 := Lib.hid (HN1.out.trans hN)
  have HX2 := Lib.hid (hN.blk HX1.out fun x => x); have HY2 := Lib.hid (hN.blk HY1.out fun x => x); clear hr hN HN1 HX1 HY1 h5 HR1; obtain ⟨gF, fc', fs, he, hcf, hof⟩ := HR2.out.at han; rw [← HNF.out] at he
  cases he
  rw [← HF.out] at hof; obtain ⟨sf, sfc, rfl, hcs⟩ := hof.cells
  obtain ⟨lf, HLF⟩ : ∃ n, Hid (n = f.length) := ⟨_, Lib.hid rfl⟩
  rw [← HLF.out] at hcf hof; have HCF := Lib.hid hcf; have HOF := Lib.hid hof; have HCS := Lib.hid hcs
  have hlf : lf ≤ 64 := by rw [HLF.out, HF.out]; exact (HFX.out.2 _ (List.getElem_mem han)).1
  clear hcf hof hcs; go_wp2_with fail
  go_loopw [11] (fun i wr => ∃ k : Nat, k ≤ K ∧ i = .int .i64 k ∧ Hid (New w2 wr)) (fun i _ => K - (intOf i).toNat)
  case atStart => exact ⟨0, by omega, rfl, Lib.hid (Fr.refl _ _)⟩
  case round =>
    obtain ⟨k, hk, rfl, HNr⟩ := hrel
    have hkg : k < gg.length := by omega
    have hkn : ((k : Nat) : Int) < (ng : Nat) := by have := HNG.out; omega
    have hk0 : (0 : Int) ≤ (k : Nat) := by omega
    obtain ⟨gG, gc', gs, he, hcg, hog⟩ := HQ2.out.at hkg; rw [← HNG.out] at he
    cases he
    obtain ⟨g, HGk⟩ : ∃ g, Hid (g = gg[k]) := ⟨_, Lib.hid rfl⟩
    rw [← HGk.out] at hog; obtain ⟨sg, sgc, rfl, hcs⟩ := hog.cells
    obtain ⟨lg, HLG⟩ : ∃ n, Hid (n = g.length) := ⟨_, Lib.hid rfl⟩
    rw [← HLG.out] at hcg; have HCG := Lib.hid hcg; have HGS := Lib.hid hcs
    have hlg : lg ≤ 64 := by rw [HLG.out, HGk.out]; exact (HFY.out.2 _ (List.getElem_mem hkg)).1
    obtain ⟨b3, HB3'⟩ : ∃ b, Hid (b = decide (lg = 3)) := ⟨_, Lib.hid rfl⟩
    have hd3 : (((lg : Nat) : Int) == 3) = b3 := by rw [HB3'.out, Bool.eq_iff_iff, beq_iff_eq, decide_eq_true_eq]; omega
    clear hcs hcg hog
    have g0 := HNr.out.cell HCG.out fun x => x
    go_wp2_with fail; clear g0 hd3
    go_loopw [12, 13] (fun q i wr => ∃ j : Nat, j ≤ lg ∧ i = .int .i64 j ∧ (∃ bb : Bool, q = .bool bb ∧ Hid (bb = (b3 && (g.take j).all fun d => thereB f d.1))) ∧ Hid (New w2 wr)) (fun _ i _ => lg - (intOf i).toNat)
    case atStart => exact ⟨0, by omega, rfl, ⟨b3, by rfl, Lib.hid (by simp)⟩, HNr⟩
    case round =>
      obtain ⟨j, hj, rfl, ⟨bb, rfl, HBB⟩, HNs⟩ := hrel
      have g0 := HNs.out.cell HCG.out fun x => x
      by_cases hjl : j < lg
      · have j1 : ((j : Nat) : Int) < (lg : Nat) := by omega
        have j0 : (0 : Int) ≤ (j : Nat) := by omega
        have hjg : j < g.length := by rw [← HLG.out]; exact hjl
        obtain ⟨gg', rfl, hcell⟩ := HGS.out.resolve_left (fun e => by rw [e] at hjg; simp at hjg)
        obtain ⟨x, HYtgjmjbgicfkojaaGreat⟩ : ∃ x, Hid (x = (g[j]).1) := ⟨_, Lib.hid rfl⟩
        have hcx := (hcell j hjg).1; rw [← HYtgjmjbgicfkojaaGreat.out] at hcx; have HCX := Lib.hid hcx; clear hcx hcell HGS; go_wp2_with fail; clear g0
        go_loopw [14, 15] (fun q i wr => ∃ m : Nat, m ≤ lf ∧ i = .int .i64 m ∧ (∃ bt : Bool, q = .bool bt ∧ Hid (bt = thereB (f.take m) x)) ∧ Hid (New w2 wr)) (fun _ i _ => lf - (intOf i).toNat)
        case atStart => exact ⟨0, by omega, rfl, ⟨false, by rfl, Lib.hid (by simp [thereB])⟩, HNs⟩
        case round =>
          obtain ⟨m, hm, rfl, ⟨bt, rfl, HBT⟩, HNt⟩ := hrel
          have f0 := HNt.out.cell HCF.out fun x => x
          by_cases hml : m < lf
          · have m1 : ((m : Nat) : Int) < (lf : Nat) := by omega
            have m0 : (0 : Int) ≤ (m : Nat) := by omega
            have hmf : m < f.length := by rw [← HLF.out]; exact hml
            obtain ⟨gf', rfl, hcell⟩ := HCS.out.resolve_left (fun e => by rw [e] at hmf; simp at hmf)
            obtain ⟨y, HYY⟩ : ∃ y, Hid (y = (f[m]).1) := ⟨_, Lib.hid rfl⟩
            have hcy := (hcell m hmf).1; rw [← HYY.out] at hcy
            obtain ⟨r, HRR⟩ : ∃ r, Hid (decide (y = x) = r) := ⟨_, Lib.hid rfl⟩
            have hxy : (((y : Nat) : Int) == ((x : Nat) : Int)) = r := by rw [← HRR.out, Bool.eq_iff_iff, beq_iff_eq, decide_eq_true_eq]; omega
            have HB2 : Hid ((bt || r) = thereB (f.take (m + 1)) x) := Lib.hid (by
              rw [there_step f x m hmf, ← HBT.out, ← HYY.out, HRR.out])
            clear hcell; go_wp2_with fail; clear f0; have HNd := Lib.hid (HNt.out.drew)
            have hS : wr.drew.cell? ⟨gF, an, none⟩ = some (.slice (some ⟨gf', 0, none⟩) lf sfc) ∧ wr.drew.cell? ⟨gf', m * 2, none⟩ = some (.int .i64 (y : Nat)) ∧ wr.drew.cell? ⟨gG, k, none⟩ = some (.slice (some ⟨gg', 0, none⟩) lg sgc) ∧ wr.drew.cell? ⟨gg', j * 2, none⟩ = some (.int .i64 (x : Nat)) :=
              ⟨HNd.out.cell HCF.out fun x => x, HNd.out.cell hcy fun x => x, HNd.out.cell HCG.out fun x => x, HNd.out.cell HCX.out fun x => x⟩
            refine wp_region_held_drew (S := fun wz => wz.cell? ⟨gF, an, none⟩ = some (.slice (some ⟨gf', 0, none⟩) lf sfc) ∧ wz.cell? ⟨gf', m * 2, none⟩ = some (.int .i64 (y : Nat)) ∧ wz.cell? ⟨gG, k, none⟩ = some (.slice (some ⟨gg', 0, none⟩) lg sgc) ∧ wz.cell? ⟨gg', j * 2, none⟩ = some (.int .i64 (x : Nat))) (by kernel_rfl) hS (fun hHeld => ?_)
            clear hS hcy; generalize wr.drew = r0 at hHeld HNd ⊢
            cases bt
            · skip
              refine' tkO (i := 0) ?_; (try simp only [Act.put, lq1, lq2, lq4, lq5, lq6]); refine' tkO (i := 1) ?_; (try simp only [Act.put, lq1, lq2, lq3, lq4, lq5, lq6]); refine' tkO (i := 2) ?_; (try simp only [Act.put, lq1, lq2, lq3, lq4, lq5, lq6]); refine' tkO (i := 3) ?_; (try simp only [Act.put, lq1, lq2, lq3, lq4, lq5, lq6]); refine' tkO (i := 4) ?_; (try simp only [Act.put, lq1, lq2, lq3, lq4, lq5, lq6]); refine' tkO (i := 5) ?_; (try simp only [Act.put, lq1, lq2, lq3, lq4, lq5, lq6]); refine' tkO (i := 6) ?_; (try simp only [Act.put, lq1, lq2, lq3, lq4, lq5, lq6])
              refine' tkO (i := 7) ?_; (try simp only [Act.put, lq1, lq2, lq3, lq4, lq5, lq6]); refine' tkO (i := 8) ?_; (try simp only [Act.put, lq1, lq2, lq3, lq4, lq5, lq6]); refine' tkO (i := 9) ?_; (try simp only [Act.put, lq1, lq2, lq3, lq4, lq5, lq6]); refine' tkO (i := 10) ?_; (try simp only [Act.put, lq1, lq2, lq3, lq4, lq5, lq6]); refine' tkO (i := 11) ?_; (try simp only [Act.put, lq1, lq2, lq3, lq4, lq5, lq6]); refine' tkO (i := 12) ?_; (try simp only [Act.put, lq1, lq2, lq3, lq4, lq5, lq6]); refine' tkO (i := 13) ?_; (try simp only [Act.put, lq1, lq2, lq3, lq4, lq5, lq6])
              refine' tkO (i := 14) ?_; (try simp only [Act.put, lq1, lq2, lq3, lq4, lq5, lq6]); refine' tkO (i := 15) ?_; (try simp only [Act.put, lq1, lq2, lq3, lq4, lq5, lq6]); refine' tkO (i := 16) ?_; (try simp only [Act.put, lq1, lq2, lq3, lq4, lq5, lq6]); refine' tkO (i := 17) ?_; (try simp only [Act.put, lq1, lq2, lq3, lq4, lq5, lq6]); refine' tkO (i := 18) ?_; (try simp only [Act.put, lq1, lq2, lq3, lq4, lq5, lq6]); refine' tkO (i := 19) ?_; (try simp only [Act.put, lq1, lq2, lq3, lq4, lq5, lq6]); refine' tkO (i := 20) ?_; (try simp only [Act.put, lq1, lq2, lq3, lq4, lq5, lq6])
              refine wpAnyH_done (by kernel_rfl) ?_ _; (try dsimp only); go_wp2_with fail
              go_roundw
              case rel => exact ⟨m + 1, by omega, by go_num, ⟨_, rfl, HB2⟩, HNd⟩
              case measure => simp only [intOf]; omega
            · skip
              refine' tkO (i := 0) ?_; (try simp only [Act.put, lq1, lq2, lq4, lq5, lq6]); refine' tkO (i := 1) ?_; (try simp only [Act.put, lq1, lq2, lq3, lq4, lq5, lq6]); refine' skO (i := 2) ?_; (try simp only [Act.put, lq1, lq2, lq3, lq4, lq5, lq6]); refine' skO (i := 3) ?_; (try simp only [Act.put, lq1, lq2, lq3, lq4, lq5, lq6]); refine' skO (i := 4) ?_; (try simp only [Act.put, lq1, lq2, lq3, lq4, lq5, lq6]); refine' skO (i := 5) ?_; (try simp only [Act.put, lq1, lq2, lq3, lq4, lq5, lq6]); refine' skO (i := 6) ?_; (try simp only [Act.put, lq1, lq2, lq3, lq4, lq5, lq6])
              refine' skO (i := 7) ?_; (try simp only [Act.put, lq1, lq2, lq3, lq4, lq5, lq6]); refine' skO (i := 8) ?_; (try simp only [Act.put, lq1, lq2, lq3, lq4, lq5, lq6]); refine' skO (i := 9) ?_; (try simp only [Act.put, lq1, lq2, lq3, lq4, lq5, lq6]); refine' skO (i := 10) ?_; (try simp only [Act.put, lq1, lq2, lq3, lq4, lq5, lq6]); refine' skO (i := 11) ?_; (try simp only [Act.put, lq1, lq2, lq3, lq4, lq5, lq6]); refine' skO (i := 12) ?_; (try simp only [Act.put, lq1, lq2, lq3, lq4, lq5, lq6]); refine' skO (i := 13) ?_; (try simp only [Act.put, lq1, lq2, lq3, lq4, lq5, lq6])
              refine' skO (i := 14) ?_; (try simp only [Act.put, lq1, lq2, lq3, lq4, lq5, lq6]); refine' skO (i := 15) ?_; (try simp only [Act.put, lq1, lq2, lq3, lq4, lq5, lq6]); refine' skO (i := 16) ?_; (try simp only [Act.put, lq1, lq2, lq3, lq4, lq5, lq6]); refine' skO (i := 17) ?_; (try simp only [Act.put, lq1, lq2, lq3, lq4, lq5, lq6]); refine' skO (i := 18) ?_; (try simp only [Act.put, lq1, lq2, lq3, lq4, lq5, lq6]); refine' tkO (i := 19) ?_; (try simp only [Act.put, lq1, lq2, lq3, lq4, lq5, lq6]); refine' tkO (i := 20) ?_; (try simp only [Act.put, lq1, lq2, lq3, lq4, lq5, lq6])
              refine wpAnyH_done (by kernel_rfl) ?_ _; (try dsimp only); go_wp2_with fail
              go_roundw
              case rel => exact ⟨m + 1, by omega, by go_num, ⟨_, rfl, HB2⟩, HNd⟩
              case measure => simp only [intOf]; omega
          · have m1 : ¬ ((m : Nat) : Int) < (lf : Nat) := by omega
            obtain rfl : lf = m := by omega
            rw [show f.take lf = f from List.take_of_length_le (by rw [HLF.out]; exact Nat.le_refl _)] at HBT
            have HB2 : Hid ((bb && bt) = (b3 && (g.take (j + 1)).all fun d => thereB f d.1)) := Lib.hid (by
              rw [okF_step f g b3 j hjg, ← HBB.out, ← HYtgjmjbgicfkojaaGreat.out, ← HBT.out])
            cases bb
            · go_wp2_with fail
              clear f0
              go_roundw
              case rel => exact ⟨j + 1, by omega, by go_num, ⟨_, rfl, HB2⟩, HNt⟩
              case measure => simp only [intOf]; omega
            · go_wp2_with fail
              clear f0
              go_roundw
              case rel => exact ⟨j + 1, by omega, by go_num, ⟨_, rfl, HB2⟩, HNt⟩
              case measure => simp only [intOf]; omega
      · have j1 : ¬ ((j : Nat) : Int) < (lg : Nat) := by omega
        obtain rfl : lg = j := by omega
        rw [show g.take lg = g from List.take_of_length_le (by rw [HLG.out]; exact Nat.le_refl _), HB3'.out] at HBB; rw [show (decide (lg = 3) && g.all fun d => thereB f d.1) = okF f g by unfold okF; rw [HLG.out]] at HBB
        cases bb
        · have hkK : k ≠ K := fun e => by
            have h1 := HOK.out; subst e; rw [← HGk.out, ← HBB.out] at h1
            cases h1
          go_wp2_with fail; clear g0
          go_roundw
          case rel => exact ⟨k + 1, by omega, by go_num, HNs⟩
          case measure => simp only [intOf]; omega
        · obtain ⟨y0, y1, _, _⟩ := box2_c (HNs.out.blk HY2.out fun x => x)
          obtain ⟨o, HO⟩ : ∃ o, Hid (slideO Y L ((k : Nat) : Int) = o) := ⟨_, Lib.hid rfl⟩
          have HDM := Lib.hid (do_slide a' n' c' Y L ((k : Nat) : Int) 0 0 0 false false false _ (New.crs (HN2.out.trans HNs.out) HY.out) HN'.out (by rw [HN'.out]; omega) (by omega) (by omega)); rw [doO_good HGY.out, HO.out] at HDM; have HNw := Lib.hid (HN2.out.trans HNs.out); go_wp2_with fail; clear g0 y0 y1
          refine HDM.out.mono ?_
          rintro e w4 ⟨hN, hM⟩
          have hc : o = .no 3 ∨ o = .no 8 ∨ ∃ Z, o = .ok Z L := by rw [← HO.out]; exact slideO_cases _
          rcases hc with rfl | rfl | ⟨Z, rfl⟩
          · obtain rfl := hM
            have hkK : k ≠ K := fun e => by
              have h1 := HO.out; rw [e, HSL.out] at h1
              cases h1
            have HN5 : Hid (New w2 (w4.alloc (.cells #[.slice none 0 0, .int .i64 0] 24))) := Lib.hid ((HNs.out.trans hN).alloc _); go_wp2
            go_roundw
            case rel => exact ⟨k + 1, by omega, by go_num, HN5⟩
            case measure => simp only [intOf]; omega
          · obtain rfl := hM
            have hkK : k ≠ K := fun e => by
              have h1 := HO.out; rw [e, HSL.out] at h1
              cases h1
            have HN5 : Hid (New w2 (w4.alloc (.cells #[.slice none 0 0, .int .i64 0] 24))) := Lib.hid ((HNs.out.trans hN).alloc _); go_wp2
            go_roundw
            case rel => exact ⟨k + 1, by omega, by go_num, HN5⟩
            case measure => simp only [intOf]; omega
          · obtain ⟨za, zc, rfl, hcz, _⟩ := hM
            obtain ⟨nz, HNZ⟩ : ∃ n, Hid (n = Z.length) := ⟨_, Lib.hid rfl⟩
            have HGZ := Lib.hid (slideO_back HGY.out HO.out).1; rw [← HNZ.out]
            obtain ⟨w5, HW5⟩ : ∃ w5, Hid (w5 = w4.alloc (.cells #[.slice za nz zc, .int .i64 L] 24)) := ⟨_, Lib.hid rfl⟩
            obtain ⟨B5, HB5⟩ : ∃ B, Hid (B = w4.heap.size) := ⟨_, Lib.hid rfl⟩
            have hn5 : New w4 w5 := by rw [HW5.out]; exact (Fr.refl _ _).alloc _
            have hz5 : w5.heap[B5]? = some (.cells #[.slice za nz zc, .int .i64 L] 24 (0, 0)) := by rw [HW5.out, HB5.out]; exact heap_alloc_new _ _
            have HN5 := Lib.hid ((HNs.out.trans hN).trans hn5); have HZ5 := Lib.hid (New.crs hn5 hcz); obtain ⟨y0, y1, _, _⟩ := box2_c (HN5.out.blk HX2.out fun x => x); obtain ⟨z0, z1, _, _⟩ := box2_c hz5; clear hN hcz hn5 hz5
            obtain ⟨p, HP⟩ : ∃ p, Hid (decide (Kn.formL Z = Kn.formL X) = p) := ⟨_, Lib.hid rfl⟩
            have HAL := Lib.hid (alike2_any za a nz n zc c Z X L w5 HZ5.out (New.crs (HN2.out.trans HN5.out) HX.out) HNZ.out HN.out HGZ.out.1 HG.out.1 (by omega) (by omega)); rw [HP.out] at HAL; go_upto_region 20 with fail; rw [← HW5.out, ← HB5.out]; clear HW5 HB5; go_wp2_with fail; clear y0 y1 z0 z1
            refine HAL.out.mono ?_
            rintro e w6 ⟨rfl, hN6⟩; have HN6 := Lib.hid (HN5.out.trans hN6); clear hN6
            cases p
            · have hkK : k ≠ K := fun e => by
                have h1 := HO.out; rw [e, HSL.out] at h1
                cases h1
                exact of_decide_eq_false HP.out rfl
              go_wp2
              go_roundw
              case rel => exact ⟨k + 1, by omega, by go_num, HN6⟩
              case measure => simp only [intOf]; omega
            · go_wp2
              go_ret
              exact ⟨rfl, HN2.out.trans HN6.out⟩
end Go.Proofs.YtgjmjbgicfkojaaGreat
