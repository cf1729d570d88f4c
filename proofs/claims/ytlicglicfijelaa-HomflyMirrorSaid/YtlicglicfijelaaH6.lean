/- Walks: change (regions 1, 2 printed by gen_h6.py). -/
import Derived.Test.YtlicglicfijelaaH5
import Derived.Test.YtlicglicfijelaaN9
namespace Go.Proofs.Ytlicglicfijelaa
open Go.RowKit

set_option maxRecDepth 100000 in
set_option maxHeartbeats 4000000 in
theorem change_any (b k : Nat) (X : List Kn.Cr) (L : Int) (w : World) (h : ShAt w b X L) (hk : k < X.length) (hl : X.length ≤ 16) :
    Calls Try.prog 27 #[.pointer (some ⟨b, 0, none⟩), .int .i64 k] w (GaveWith (Kn.chgL X k) L w) := by
  obtain ⟨n, hn⟩ : ∃ n, n = X.length := ⟨_, rfl⟩
  obtain ⟨a1, c1, h0, hL, hcr⟩ := h.crs
  rw [← hn] at h0 hk hl
  have HN := Lib.hid hn
  have HS := Lib.hid h
  have HCR := Lib.hid hcr
  clear h hn hcr
  obtain ⟨rb, HRB⟩ : ∃ z, Hid (z = w.heap.size) := ⟨_, Lib.hid rfl⟩
  obtain ⟨w1, HW1⟩ : ∃ w1, Hid (w1 = w.alloc (.cells #[.slice none 0 0, .int .i64 0] 24)) := ⟨_, Lib.hid rfl⟩
  have HN0 : Hid (New w w1.drew) := Lib.hid (by rw [HW1.out]; exact ((Fr.refl _ w).alloc _).drew)
  have HR0 : Hid (w1.drew.heap[rb]? = some (.cells #[.slice none 0 0, .int .i64 0] 24 (0, 0))) := Lib.hid (by rw [HW1.out, HRB.out]; exact heap_alloc_new w _)
  have hSS : w1.drew.cell? ⟨b, 0, none⟩ = some (.slice a1 n c1) ∧ w1.drew.cell? ⟨b, 1, none⟩ = some (.int .i64 L) := ⟨HN0.out.cell h0 fun x => x, HN0.out.cell hL fun x => x⟩
  have hbj : ∀ j, rb < j → ¬ b = j := fun j hj e => by have := (show b < w.heap.size from by obtain ⟨_, _, _, _, s⟩ := HS.out; exact s.lt); have := HRB.out; omega
  go_enter Try.func27, Try.ntmps27
  go_upto_region 1 with fail
  rw [← HW1.out, ← HRB.out]
  go_cut [5] (fun t5 wz => ∃ (j : Nat) (sc : Value), t5 = .pointer (some ⟨j, 0, none⟩) ∧ rb < j ∧ Hid (wz.heap[j]? = some (.cells #[sc, .int .i64 L] 24 (0, 0))) ∧ Hid (wz.ownsRow w.heap.size 58 5 sc n (crCells X)) ∧ Hid (New w wz) ∧ Hid (wz.heap[rb]? = some (.cells #[.slice none 0 0, .int .i64 0] 24 (0, 0))))
  case first =>
    refine wp_region_held_drew (S := fun w' => w'.cell? ⟨b, 0, none⟩ = some (.slice a1 n c1) ∧ w'.cell? ⟨b, 1, none⟩ = some (.int .i64 L)) (by kernel_rfl) hSS (fun hHeld => ?_)
    clear hSS h0 hL
    generalize w1.drew = r0 at hHeld HN0 HR0 ⊢
    refine' tkO (i := 0) ?_
    (try simp only [Act.put, lq1, lq2, lq3, lq4, lq5, lq6])
    refine' tkO (i := 1) ?_
    (try simp only [Act.put, lq1, lq2, lq3, lq4, lq5, lq6])
    refine' tkO (i := 2) ?_
    (try simp only [Act.put, lq1, lq2, lq3, lq4, lq5, lq6])
    refine' tkO (i := 3) ?_
    (try simp only [Act.put, lq1, lq2, lq3, lq4, lq5, lq6])
    refine' tkO (i := 4) ?_
    (try simp only [Act.put, lq1, lq2, lq3, lq4, lq5, lq6])
    refine' tkO (i := 6) ?_
    (try simp only [Act.put, lq1, lq2, lq3, lq4, lq5, lq6])
    refine' tkO (i := 7) ?_
    (try simp only [Act.put, lq1, lq2, lq3, lq4, lq5, lq6])
    refine' tkO (i := 8) ?_
    (try simp only [Act.put, lq1, lq2, lq3, lq4, lq5, lq6])
    refine' tkO (i := 9) ?_
    (try simp only [Act.put, lq1, lq2, lq3, lq4, lq5, lq6])
    refine' tkO (i := 10) ?_
    (try simp only [Act.put, lq1, lq2, lq3, lq4, lq5, lq6])
    refine wpAnyH_ready (rs := [5, 12]) (by kernel_rfl) (by simp) ?_
    refine AllReadyH.cons rfl (fun K hK => ?_) (AllReadyH.cons rfl (fun K hK => ?_) AllReadyH.nil)
    · skip
      (try simp only [lq1, lq2, lq3])
      go_simp
      have hcl := clone_any a1 c1 X r0 (New.crs HN0.out HCR.out) (by have := HN.out; omega)
      rw [← HN.out] at hcl
      refine hcl.mono ?_
      clear hcl
      rintro e r1 ⟨sc, rfl, ho, hF⟩
      obtain ⟨a3, c3, rfl, _⟩ := own_shape2 ho
      rw [← HN.out] at ho ⊢
      have HO1 := Lib.hid (own_base ho HN0.out.size)
      have HN1 := Lib.hid (HN0.out.trans hF)
      have HR1 := Lib.hid (hF.blk HR0.out fun x => x)
      have hS1 := hHeld
      have hH2 := And.intro (hF.cell hHeld.1 fun x => x) (hF.cell hHeld.2 fun x => x)
      clear hF ho hS1
      go_wp2_with fail
      refine hK.out _ _ hH2 (fun hHeld => ?_)
      clear hK K hH2
      (try simp only [Act.put, lq1, lq2, lq3, lq4, lq5, lq6])
      refine' tkO (i := 11) ?_
      (try simp only [Act.put, lq1, lq2, lq3, lq4, lq5, lq6])
      refine rdO (i := 12) (fun K hK => ?_)
      (try simp only [lq1, lq2, lq3])
      go_simp
      have hF : New r1 (r1.alloc (.cells #[.slice none 0 0, .int .i64 0] 24)) := (Fr.refl _ _).alloc _
      have hk9 := heap_alloc_new r1 (.cells #[.slice none 0 0, .int .i64 0] 24)
      have hl9 := (Array.getElem?_eq_some_iff.1 HR1.out).1
      obtain ⟨j, Hj⟩ : ∃ z, Hid (z = r1.heap.size) := ⟨_, Lib.hid rfl⟩
      rw [← Hj.out] at hk9 hl9 ⊢
      generalize r1.alloc (.cells #[.slice none 0 0, .int .i64 0] 24) = r2 at hF hk9 ⊢
      have HN2 := Lib.hid (HN1.out.trans hF)
      have HR2 := Lib.hid (hF.blk HR1.out fun x => x)
      have HJ2 := Lib.hid hk9
      have HO2 := Lib.hid (hF.owns HO1.out fun _ _ x => x)
      have hH2 := And.intro (hF.cell hHeld.1 fun x => x) (hF.cell hHeld.2 fun x => x)
      clear hF hk9
      refine hK.out _ _ hH2 (fun hHeld => ?_)
      clear hK K hH2
      (try simp only [Act.put, lq1, lq2, lq3, lq4, lq5, lq6])
      refine rdO (i := 13) (fun K hK => ?_)
      (try simp only [lq1, lq2, lq3])
      obtain ⟨q1, q2, q3, q4⟩ := two_c HJ2.out
      go_simp
      clear q1 q2 q3 q4
      have HE := Lib.hid (two_set HJ2.out (.slice a3 n c3) (.int .i64 L))
      have HF := Lib.hid (two_fr r2 j (.slice a3 n c3) (.int .i64 L))
      have HOE := Lib.hid (HF.out.owns HO2.out fun i hi e => blk_not_own HJ2.out HO2.out (by decide) (e ▸ hi))
      have hH2 : _ ∧ _ := And.intro (HF.out.cell hHeld.1 fun e => hbj j (by omega) e) (HF.out.cell hHeld.2 fun e => hbj j (by omega) e)
      generalize (r2.setCell ⟨j, 0, none⟩ (.slice a3 n c3)).setCell ⟨j, 1, none⟩ (.int .i64 L) = s3 at HE HF HOE hH2 ⊢
      refine hK.out _ _ hH2 (fun hHeld => ?_)
      clear hK K hH2
      (try simp only [Act.put, lq1, lq2, lq3, lq4, lq5, lq6])
      refine wpAnyH_done (by kernel_rfl) ?_ _
      go_wp2
      go_meet
      exact ⟨j, _, rfl, hl9, HE, HOE, Lib.hid (HN2.out.next HF.out fun i hi => .inr (by have := HRB.out; omega)), Lib.hid (HF.out.blk HR2.out (by omega))⟩
    · skip
      (try simp only [lq1, lq2, lq3])
      go_simp
      have hF : New r0 (r0.alloc (.cells #[.slice none 0 0, .int .i64 0] 24)) := (Fr.refl _ _).alloc _
      have hk9 := heap_alloc_new r0 (.cells #[.slice none 0 0, .int .i64 0] 24)
      have hl9 := (Array.getElem?_eq_some_iff.1 HR0.out).1
      obtain ⟨j, Hj⟩ : ∃ z, Hid (z = r0.heap.size) := ⟨_, Lib.hid rfl⟩
      rw [← Hj.out] at hk9 hl9 ⊢
      generalize r0.alloc (.cells #[.slice none 0 0, .int .i64 0] 24) = r1 at hF hk9 ⊢
      have HN1 := Lib.hid (HN0.out.trans hF)
      have HR1 := Lib.hid (hF.blk HR0.out fun x => x)
      have HJ1 := Lib.hid hk9
      have hH2 := And.intro (hF.cell hHeld.1 fun x => x) (hF.cell hHeld.2 fun x => x)
      clear hF hk9
      refine hK.out _ _ hH2 (fun hHeld => ?_)
      clear hK K hH2
      (try simp only [Act.put, lq1, lq2, lq3, lq4, lq5, lq6])
      refine rdO (i := 5) (fun K hK => ?_)
      (try simp only [lq1, lq2, lq3])
      go_simp
      have hcl := clone_any a1 c1 X r1 (New.crs HN1.out HCR.out) (by have := HN.out; omega)
      rw [← HN.out] at hcl
      refine hcl.mono ?_
      clear hcl
      rintro e r2 ⟨sc, rfl, ho, hF⟩
      obtain ⟨a3, c3, rfl, _⟩ := own_shape2 ho
      rw [← HN.out] at ho ⊢
      have HO2 := Lib.hid (own_base ho HN1.out.size)
      have HN2 := Lib.hid (HN1.out.trans hF)
      have HR2 := Lib.hid (hF.blk HR1.out fun x => x)
      have hS2 := hHeld
      have HJ2 := Lib.hid (hF.blk HJ1.out fun x => x)
      have hH2 := And.intro (hF.cell hHeld.1 fun x => x) (hF.cell hHeld.2 fun x => x)
      clear hF ho hS2
      go_wp2_with fail
      refine hK.out _ _ hH2 (fun hHeld => ?_)
      clear hK K hH2
      (try simp only [Act.put, lq1, lq2, lq3, lq4, lq5, lq6])
      refine' tkO (i := 11) ?_
      (try simp only [Act.put, lq1, lq2, lq3, lq4, lq5, lq6])
      refine rdO (i := 13) (fun K hK => ?_)
      (try simp only [lq1, lq2, lq3])
      obtain ⟨q1, q2, q3, q4⟩ := two_c HJ2.out
      go_simp
      clear q1 q2 q3 q4
      have HE := Lib.hid (two_set HJ2.out (.slice a3 n c3) (.int .i64 L))
      have HF := Lib.hid (two_fr r2 j (.slice a3 n c3) (.int .i64 L))
      have HOE := Lib.hid (HF.out.owns HO2.out fun i hi e => blk_not_own HJ2.out HO2.out (by decide) (e ▸ hi))
      have hH2 : _ ∧ _ := And.intro (HF.out.cell hHeld.1 fun e => hbj j (by omega) e) (HF.out.cell hHeld.2 fun e => hbj j (by omega) e)
      generalize (r2.setCell ⟨j, 0, none⟩ (.slice a3 n c3)).setCell ⟨j, 1, none⟩ (.int .i64 L) = s3 at HE HF HOE hH2 ⊢
      refine hK.out _ _ hH2 (fun hHeld => ?_)
      clear hK K hH2
      (try simp only [Act.put, lq1, lq2, lq3, lq4, lq5, lq6])
      refine wpAnyH_done (by kernel_rfl) ?_ _
      go_wp2
      go_meet
      exact ⟨j, _, rfl, hl9, HE, HOE, Lib.hid (HN2.out.next HF.out fun i hi => .inr (by have := HRB.out; omega)), Lib.hid (HF.out.blk HR2.out (by omega))⟩
  case rest =>
    obtain ⟨j, sc, rfl, hj, HJ, HO, HNw, HR⟩ := hcut
    obtain ⟨a3, c3, rfl, _⟩ := own_shape2 HO.out
    obtain ⟨g, rfl⟩ : ∃ g, a3 = some ⟨g, 0, none⟩ := by
      rcases HO.out.2 with ⟨e, h0⟩ | ⟨g, cap, cur, e, _⟩
      · exact absurd h0 (by omega)
      · injection e with e1 _ _; exact ⟨g, e1⟩
    have hkX : k < X.length := by have := HN.out; omega
    obtain ⟨x1, x2, x3, x4, x5⟩ := own_five HO.out HN.out hkX
    obtain ⟨xa, xb, xc, xd, xp, HXC⟩ := Kn.cr_parts' X k
    rw [HXC.out] at x1 x2 x3 x4 x5
    simp only at x1 x2 x3 x4 x5
    have i1 : (0 : Int) ≤ (k : Int) := by omega
    have i2 : (k : Int) < (n : Int) := by omega
    obtain ⟨q1, q2, _, _⟩ := two_c HJ.out
    go_upto_region 2 with fail
    obtain ⟨y0, HY0⟩ : ∃ z, Hid (z = wc.drew) := ⟨_, Lib.hid rfl⟩
    have hSS : wc.drew.cell? ⟨j, 0, none⟩ = some (.slice (some ⟨g, 0, none⟩) n c3) := q1
    refine wp_region_held_drew (S := fun w' => w'.cell? ⟨j, 0, none⟩ = some (.slice (some ⟨g, 0, none⟩) n c3)) (by kernel_rfl) hSS (fun hHeld => ?_)
    have x1 : wc.drew.cell? ⟨g, k * 5, none⟩ = some (.int .i64 xa) := x1
    have x2 : wc.drew.cell? ⟨g, k * 5 + 1, none⟩ = some (.int .i64 xb) := x2
    have x3 : wc.drew.cell? ⟨g, k * 5 + 2, none⟩ = some (.int .i64 xc) := x3
    have x4 : wc.drew.cell? ⟨g, k * 5 + 3, none⟩ = some (.int .i64 xd) := x4
    have x5 : wc.drew.cell? ⟨g, k * 5 + 4, none⟩ = some (.bool xp) := x5
    clear hSS q1 q2
    have HJy : Hid (y0.heap[j]? = some (.cells #[.slice (some ⟨g, 0, none⟩) n c3, .int .i64 L] 24 (0, 0))) := Lib.hid (by rw [HY0.out]; exact HJ.out)
    have HOy : Hid (y0.ownsRow w.heap.size 58 5 (.slice (some ⟨g, 0, none⟩) n c3) n (crCells X)) := Lib.hid (by rw [HY0.out]; exact HO.out)
    have HNy : Hid (New w y0) := Lib.hid (by rw [HY0.out]; exact HNw.out.drew)
    have HRy : Hid (y0.heap[rb]? = some (.cells #[.slice none 0 0, .int .i64 0] 24 (0, 0))) := Lib.hid (by rw [HY0.out]; exact HR.out)
    rw [← HY0.out] at hHeld x1 x2 x3 x4 x5 ⊢
    refine' tkO (i := 0) ?_
    (try simp only [Act.put, lq1, lq2, lq3, lq4, lq5, lq6])
    refine' tkO (i := 1) ?_
    (try simp only [Act.put, lq1, lq2, lq3, lq4, lq5, lq6])
    refine' tkO (i := 2) ?_
    (try simp only [Act.put, lq1, lq2, lq3, lq4, lq5, lq6])
    refine' tkO (i := 3) ?_
    (try simp only [Act.put, lq1, lq2, lq3, lq4, lq5, lq6])
    refine' tkO (i := 4) ?_
    (try simp only [Act.put, lq1, lq2, lq3, lq4, lq5, lq6])
    refine' tkO (i := 5) ?_
    (try simp only [Act.put, lq1, lq2, lq3, lq4, lq5, lq6])
    refine' tkO (i := 6) ?_
    (try simp only [Act.put, lq1, lq2, lq3, lq4, lq5, lq6])
    refine rdO (i := 7) (fun K hK => ?_)
    (try simp only [lq1, lq2, lq3])
    go_simp
    refine hK.out _ _ hHeld (fun hHeld => ?_)
    clear hK K x1 x2 x3 x4 x5
    (try simp only [Act.put, lq1, lq2, lq3, lq4, lq5, lq6])
    refine rdO (i := 8) (fun K hK => ?_)
    (try simp only [lq1, lq2, lq3])
    go_simp
    refine (changed_any ⟨xa, xb, xc, xd, xp⟩ _).mono ?_
    rintro e y1 ⟨rfl, hF⟩
    obtain ⟨ma, mb, mc, md, mp, HMC⟩ : ∃ a b c d p, Hid (Kn.mirC ⟨xa, xb, xc, xd, xp⟩ = ⟨a, b, c, d, p⟩) := ⟨_, _, _, _, _, Lib.hid rfl⟩
    rw [HMC.out]
    have HJ1 := Lib.hid (hF.blk HJy.out fun x => x)
    have HO1 := Lib.hid (hF.owns HOy.out fun _ _ x => x)
    have HN1 := Lib.hid (HNy.out.trans hF)
    have HR1 := Lib.hid (hF.blk HRy.out fun x => x)
    have hH2 := hF.cell hHeld fun x => x
    clear hF
    go_wp2_with fail
    refine hK.out _ _ hH2 (fun hHeld => ?_)
    clear hK K hH2
    (try simp only [Act.put, lq1, lq2, lq3, lq4, lq5, lq6])
    obtain ⟨z1, z2, z3, z4, z5⟩ := own_five HO1.out HN.out hkX
    rw [HXC.out] at z1 z2 z3 z4 z5
    simp only at z1 z2 z3 z4 z5
    have f0 := own_free HO1.out (k * 5)
    have f1 := own_free HO1.out (k * 5 + 1)
    have f2 := own_free HO1.out (k * 5 + 2)
    have f3 := own_free HO1.out (k * 5 + 3)
    have f4 := own_free HO1.out (k * 5 + 4)
    have hset := own_set5 (base := w.heap.size) (g := g) (c := c3) (n := n) HO1.out hkX ⟨ma, mb, mc, md, mp⟩
    have hfs := fr_set5 y1 g k ma mb mc md mp
    refine' tkO (i := 9) ?_
    (try simp only [Act.put, lq1, lq2, lq3, lq4, lq5, lq6])
    refine rdO (i := 10) (fun K hK => ?_)
    (try simp only [lq1, lq2, lq3])
    go_simp
    clear f0 f1 f2 f3 f4 z1 z2 z3 z4 z5
    have hgj : ¬ j = g := fun e => blk_not_own HJ1.out HO1.out (by decide) (by rw [e]; rfl)
    have hgr : ¬ rb = g := fun e => blk_not_own HR1.out HO1.out (by decide) (by rw [e]; rfl)
    have hgw : w.heap.size ≤ g := by
      rcases HO1.out.2 with ⟨e, _⟩ | ⟨g', cap, cur, e, hb, _⟩
      · cases e
      · injection e with e1 _ _
        injection e1 with e1
        injection e1 with e1 _ _
        rw [e1]; exact hb
    change K _ (set5 y1 g k ma mb mc md mp)
    generalize set5 y1 g k ma mb mc md mp = y2 at hset hfs ⊢
    have HSET := Lib.hid hset
    have HJ2 := Lib.hid (hfs.blk HJ1.out hgj)
    have HR2 := Lib.hid (hfs.blk HR1.out hgr)
    have HN2 : Hid (New w y2) := Lib.hid (HN1.out.next hfs fun i hi => .inr (by rw [hi]; exact hgw))
    have hH3 := hfs.cell hHeld hgj
    clear hset hfs hHeld
    refine hK.out _ _ hH3 (fun hHeld => ?_)
    clear hK K hH3
    (try simp only [Act.put, lq1, lq2, lq3, lq4, lq5, lq6])
    refine wpAnyH_done (by kernel_rfl) ?_ _
    obtain ⟨q1, q2, _, _⟩ := two_c HJ2.out
    obtain ⟨r1, r2, r3, r4⟩ := two_c HR2.out
    have HE := Lib.hid (two_set HR2.out (.slice (some ⟨g, 0, none⟩) n c3) (.int .i64 L))
    have HF := Lib.hid (two_fr y2 rb (.slice (some ⟨g, 0, none⟩) n c3) (.int .i64 L))
    go_wp2
    obtain ⟨p1, p2, _, _⟩ := two_c HE.out
    have hlen : (Kn.chgL X k).length = n := by unfold Kn.chgL; rw [List.length_set, HN.out]
    have hch : X.set k ⟨ma, mb, mc, md, mp⟩ = Kn.chgL X k := by unfold Kn.chgL; rw [HXC.out, HMC.out]
    refine bodyPost_ret (v := .agg #[.slice (some ⟨g, 0, none⟩) n c3, .int .i64 L]) (by simp [results, Try.results27, go_sem, p1, p2]) rfl ⟨_, rfl, ?_, HN2.out.next HF.out fun i hi => .inr (by rw [hi, HRB.out]; exact Nat.le_refl _)⟩
    rw [hlen, ← hch]
    exact HF.out.owns HSET.out fun i hi e => hgr (by have : g = i := Option.some.inj hi; omega)
end Go.Proofs.Ytlicglicfijelaa
