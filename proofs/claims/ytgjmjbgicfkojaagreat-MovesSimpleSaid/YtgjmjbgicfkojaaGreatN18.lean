/- Walks: Simple. -/
import Derived.Test.YtgjmjbgicfkojaaGreatN17
namespace Go.Proofs.YtgjmjbgicfkojaaGreat
open Go.RowKit

set_option maxRecDepth 100000 in
set_option maxHeartbeats 8000000 in
theorem simple_any (a : Option Addr) (n c : Nat) (X : List Kn.Cr) (L : Int) (w : World) (hx : CrsAt w a X) (hn : n = X.length) (lx : n ≤ 9223372036854775807) (l1 : -9223372036854775808 ≤ L) (l2 : L ≤ 9223372036854775807) :
    Calls Tryz.prog 10 #[.agg #[.slice a n c, .int .i64 L]] w (GaveSimple X L w) := by
  have HX := Lib.hid hx
  have HN := Lib.hid hn
  obtain ⟨i5, hi5, hz50, hz51, hz52⟩ := info_parts Tryz.info28
  clear hx hn
  obtain ⟨w1, HW1⟩ : ∃ w1, Hid (w1 = (w.alloc (.cells #[.slice a n c, .int .i64 L] 24)).alloc (.cells #[.slice none 0 0, .int .i64 0] 24)) := ⟨_, Lib.hid rfl⟩
  obtain ⟨B1, HB1⟩ : ∃ B, Hid (B = w.heap.size) := ⟨_, Lib.hid rfl⟩
  obtain ⟨B2, HB2⟩ : ∃ B, Hid (B = w.heap.size + 1) := ⟨_, Lib.hid rfl⟩
  have HN1 : Hid (New w w1) := Lib.hid (by rw [HW1.out]; exact ((Fr.refl _ w).alloc _).alloc _)
  have HR1 : Hid (w1.heap[B2]? = some (.cells #[.slice none 0 0, .int .i64 0] 24 (0, 0))) := Lib.hid (by
    have h := heap_alloc_new (w.alloc (.cells #[.slice a n c, .int .i64 L] 24)) (.cells #[.slice none 0 0, .int .i64 0] 24)
    rw [World.size_alloc] at h
    rw [HW1.out, HB2.out]; exact h)
  have HM1 : Hid (w1.heap[B1]? = some (.cells #[.slice a n c, .int .i64 L] 24 (0, 0))) := Lib.hid (by
    rw [HW1.out, HB1.out]; exact ((Fr.refl (fun _ => False) _).alloc _).blk (heap_alloc_new w _) fun x => x)
  have hl2 : w.heap.size ≤ B2 := by have := HB2.out; omega
  have h12 : B2 < w1.heap.size := (Array.getElem?_eq_some_iff.1 HR1.out).1
  go_enter Tryz.func10, Tryz.ntmps10
  go_wp2_with fail
  rw [← HW1.out, ← HB2.out, ← HB1.out]
  refine wp_scope_jumps2 0 (fun a' w' => ∃ (u9 u10 u11 u12 u13 u14 u15 u16 u17 u18 u19 u20 u21 u22 u23 u24 u25 u26 u27 u28 u29 u30 u31 u32 u33 u34 u35 u36 u37 u38 u39 u40 : Value) (b B7 : Nat) (ms : List Mv) (Y : List Kn.Cr) (N : Int) (ya : Option Addr) (yc : Nat) (v : Value), a' = { tmps := #[.agg #[.slice a n c, .int .i64 L], .pointer (some ⟨B1, 0, none⟩), .pointer (some ⟨B2, 0, none⟩), .slice none 0 0, .int .i64 0, .pointer (some ⟨b, 0, none⟩), .bool true, .pointer (some ⟨B7, 0, none⟩), v, u9, u10, u11, u12, u13, u14, u15, u16, u17, u18, u19, u20, u21, u22, u23, u24, u25, u26, u27, u28, u29, u30, u31, u32, u33, u34, u35, u36, u37, u38, u39, u40], defers := [] } ∧ Hid (SmS w w' B2 B7 X L ms Y N ya yc v)) (fun a' _ => 40 - lenV (a'.tmps.getD 8 undef)) rfl ?pass ?first
  case pass =>
    rintro a' wr ⟨u9, u10, u11, u12, u13, u14, u15, u16, u17, u18, u19, u20, u21, u22, u23, u24, u25, u26, u27, u28, u29, u30, u31, u32, u33, u34, u35, u36, u37, u38, u39, u40, b, B7, ms, Y, N, ya, yc, v, rfl, HS⟩
    dsimp only
    obtain ⟨ny, HNY⟩ : ∃ ny, Hid (ny = Y.length) := ⟨_, Lib.hid rfl⟩
    have HGO := Lib.hid HS.out.good
    have hny16 : ny ≤ 16 := by have := (mayB_ok HGO.out.1).2; have := HNY.out; omega
    have hNb : 0 ≤ N ∧ N ≤ 16 := by
      have h2 := HGO.out.1
      unfold Kn.mayB at h2
      simp only [Bool.and_eq_true, decide_eq_true_eq] at h2
      exact ⟨h2.1.1.1.2, h2.1.1.2⟩
    obtain ⟨q0, q1, _, _⟩ := box2_c HS.out.now
    rw [← HNY.out] at q0
    go_wp2_with fail
    clear q0 q1
    refine (simpler_any ya ny yc Y N wr HS.out.crs HNY.out hny16 (by omega) (by omega)).mono ?_
    rintro e w4 ⟨hN, h5⟩
    rcases h5 with ⟨m, Z, K, za, zc, hdo, rfl, hzc, hzf⟩ | ⟨hs1, hs2, rfl⟩
    · obtain ⟨k', x', y', hmc, hmv⟩ := m.parts
      rw [hmv]
      have HMC := Lib.hid hmc
      have HDO := Lib.hid hdo
      have HZF := Lib.hid hzf
      obtain ⟨nz, HNZ⟩ : ∃ nz, Hid (nz = Z.length) := ⟨_, Lib.hid rfl⟩
      rw [← HNZ.out]
      obtain ⟨w6, HW6⟩ : ∃ w6, Hid (w6 = (w4.alloc (.cells #[.slice za nz zc, .int .i64 K] 24)).alloc (.cells #[.int .i64 k', .int .i64 x', .int .i64 y', .int .i64 0, .bool false, .int .i64 0, .bool false, .bool false] 28)) := ⟨_, Lib.hid rfl⟩
      obtain ⟨B9, HB9⟩ : ∃ B, Hid (B = w4.heap.size) := ⟨_, Lib.hid rfl⟩
      obtain ⟨B10, HB10⟩ : ∃ B, Hid (B = w4.heap.size + 1) := ⟨_, Lib.hid rfl⟩
      have HN6 : Hid (New wr w6) := Lib.hid (by rw [HW6.out]; exact (hN.alloc _).alloc _)
      have HC6 : Hid (CrsAt w6 za Z) := Lib.hid (by rw [HW6.out]; exact New.crs (((Fr.refl _ w4).alloc _).alloc _) hzc)
      have H9 : Hid (w6.heap[B9]? = some (.cells #[.slice za nz zc, .int .i64 K] 24 (0, 0))) := Lib.hid (by
        rw [HW6.out, HB9.out]; exact ((Fr.refl (fun _ => False) _).alloc _).blk (heap_alloc_new w4 _) fun x => x)
      have H10 : Hid (w6.heap[B10]? = some (.cells #[.int .i64 k', .int .i64 x', .int .i64 y', .int .i64 0, .bool false, .int .i64 0, .bool false, .bool false] 28 (0, 0))) := Lib.hid (by
        have h := heap_alloc_new (w4.alloc (.cells #[.slice za nz zc, .int .i64 K] 24)) (.cells #[.int .i64 k', .int .i64 x', .int .i64 y', .int .i64 0, .bool false, .int .i64 0, .bool false, .bool false] 28)
        rw [World.size_alloc] at h
        rw [HW6.out, HB10.out]; exact h)
      obtain ⟨nm, HNM⟩ : ∃ nm, Hid (nm = ms.length) := ⟨_, Lib.hid rfl⟩
      have hnm : nm ≤ 16 := by
        have h1 := HS.out.len
        have h2 := (mayB_ok HS.out.gx.1).2
        have := HNM.out
        omega
      have HSK : Hid (∀ wz : World, wz.heap[B9]? = some (.cells #[.slice za nz zc, .int .i64 K] 24 (0, 0)) → wz.heap[B10]? = some (.cells #[.int .i64 k', .int .i64 x', .int .i64 y', .int .i64 0, .bool false, .int .i64 0, .bool false, .bool false] 28 (0, 0)) → wz.cell? ⟨B9, 0, none⟩ = some (.slice za nz zc) ∧ wz.cell? ⟨B9, 1, none⟩ = some (.int .i64 K) ∧ wz.cell? ⟨B10, 0, none⟩ = some (.int .i64 k') ∧ wz.cell? ⟨B10, 1, none⟩ = some (.int .i64 x') ∧ wz.cell? ⟨B10, 2, none⟩ = some (.int .i64 y') ∧ wz.cell? ⟨B10, 3, none⟩ = some (.int .i64 0) ∧ wz.cell? ⟨B10, 4, none⟩ = some (.bool false) ∧ wz.cell? ⟨B10, 5, none⟩ = some (.int .i64 0) ∧ wz.cell? ⟨B10, 6, none⟩ = some (.bool false) ∧ wz.cell? ⟨B10, 7, none⟩ = some (.bool false)) := Lib.hid (fun wz h1 h2 => by
        obtain ⟨g0, g1, _, _⟩ := box2_c h1
        obtain ⟨k0, k1, k2, k3, k4, k5, k6, k7⟩ := eight_c h2
        exact ⟨g0, g1, k0, k1, k2, k3, k4, k5, k6, k7⟩)
      have hw4 := hN.size
      clear hN hzc hdo hzf hmc hmv
      go_wp2_with fail
      rw [← HW6.out, ← HB10.out, ← HB9.out]
      refine wp_only ?_
      have hS0 := HSK.out w6.drew H9.out H10.out
      refine wp_region_held_drew (S := fun wz => wz.cell? ⟨B9, 0, none⟩ = some (.slice za nz zc) ∧ wz.cell? ⟨B9, 1, none⟩ = some (.int .i64 K) ∧ wz.cell? ⟨B10, 0, none⟩ = some (.int .i64 k') ∧ wz.cell? ⟨B10, 1, none⟩ = some (.int .i64 x') ∧ wz.cell? ⟨B10, 2, none⟩ = some (.int .i64 y') ∧ wz.cell? ⟨B10, 3, none⟩ = some (.int .i64 0) ∧ wz.cell? ⟨B10, 4, none⟩ = some (.bool false) ∧ wz.cell? ⟨B10, 5, none⟩ = some (.int .i64 0) ∧ wz.cell? ⟨B10, 6, none⟩ = some (.bool false) ∧ wz.cell? ⟨B10, 7, none⟩ = some (.bool false)) (by kernel_rfl) hS0 (fun hHeld => ?_)
      clear hS0
      have HN0 : Hid (New wr w6.drew) := Lib.hid HN6.out.drew
      have HC0 : Hid (CrsAt w6.drew za Z) := Lib.hid (New.crs (Fr.refl _ w6).drew HC6.out)
      have H90 : Hid (w6.drew.heap[B9]? = some (.cells #[.slice za nz zc, .int .i64 K] 24 (0, 0))) := H9
      have H100 : Hid (w6.drew.heap[B10]? = some (.cells #[.int .i64 k', .int .i64 x', .int .i64 y', .int .i64 0, .bool false, .int .i64 0, .bool false, .bool false] 28 (0, 0))) := H10
      generalize w6.drew = r0 at hHeld HN0 HC0 H90 H100 ⊢
      refine' wpAnyH_take (i := 0) (v := _) rfl (by kernel_rfl) (by kernel_rfl) (by kernel_rfl) (fun _ _ _ h => h) (Or.inl ⟨by rfl, ?hy⟩) (by assumption) ?rest
      case hy => (intro w' hSw; (try dsimp only at hSw); go_simp <;> with_reducible rfl)
      case rest =>
      (try simp only [Act.put, List.getElem_toArray, List.getElem_cons_zero, List.getElem_cons_succ, List.setIfInBounds_toArray, List.set_cons_zero, List.set_cons_succ])
      refine' wpAnyH_take (i := 1) (v := _) rfl (by kernel_rfl) (by kernel_rfl) (by kernel_rfl) (fun _ _ _ h => h) (Or.inl ⟨by rfl, ?hy⟩) (by assumption) ?rest
      case hy => (intro w' hSw; (try dsimp only at hSw); go_simp <;> with_reducible rfl)
      case rest =>
      (try simp only [Act.put, List.getElem_toArray, List.getElem_cons_zero, List.getElem_cons_succ, List.setIfInBounds_toArray, List.set_cons_zero, List.set_cons_succ])
      refine' wpAnyH_take (i := 2) (v := _) rfl (by kernel_rfl) (by kernel_rfl) (by kernel_rfl) (fun _ _ _ h => h) (Or.inl ⟨by rfl, ?hy⟩) (by assumption) ?rest
      case hy => (intro w' hSw; (try dsimp only at hSw); go_simp <;> with_reducible rfl)
      case rest =>
      (try simp only [Act.put, List.getElem_toArray, List.getElem_cons_zero, List.getElem_cons_succ, List.setIfInBounds_toArray, List.set_cons_zero, List.set_cons_succ])
      refine wpAnyH_ready (rs := [3]) (by kernel_rfl) (by simp) ?_
      refine AllReadyH.cons rfl (fun K' hK => ?_) AllReadyH.nil
      (try simp only [List.getElem_toArray, List.getElem_cons_zero, List.getElem_cons_succ])
      go_simp
      refine hK.out _ _ (HSK.out _ (((Fr.refl (fun _ => False) r0).alloc _).blk H90.out fun x => x) (((Fr.refl (fun _ => False) r0).alloc _).blk H100.out fun x => x)) (fun hHeld => ?_)
      clear hK K'
      (try simp only [Act.put, List.getElem_toArray, List.getElem_cons_zero, List.getElem_cons_succ, List.setIfInBounds_toArray, List.set_cons_zero, List.set_cons_succ])
      refine wpAnyH_ready (rs := [4]) (by kernel_rfl) (by simp) ?_
      refine AllReadyH.cons rfl (fun K' hK => ?_) AllReadyH.nil
      (try simp only [List.getElem_toArray, List.getElem_cons_zero, List.getElem_cons_succ])
      rw [if_pos (by rfl)]
      have HOV := Lib.hid ((HN0.out).owns HS.out.own fun _ _ x => x)
      rw [← HNM.out] at HOV
      have hbw : w.heap.size ≤ r0.heap.size := Nat.le_trans HS.out.new.size HN0.out.size
      refine wp_append_lies _ _ _ 38 rfl w.heap.size 28 i5 (mvV 0 0 0 0 0 false false false) 8 64 Tryz.underlying38 hi5 hz50 hz51 hz52 rfl (by decide) _ nm (mvCells ms) rfl (World.ownsRow.alloc HOV.out _) ⟨r0.heap.size, 0, none⟩ 1 1 [.int .i64 k', .int .i64 x', .int .i64 y', .int .i64 0, .bool false, .int .i64 0, .bool false, .bool false] rfl rfl (eight_cells rfl) (one_eight _ _ _ _ _ _ _ _) (by omega) (by unfold maxLen; omega) (by omega) (by simp only [World.size_alloc]; omega) _ rfl ?_
      intro g cap w9 hown hgrow _ _
      rw [← HMC.out] at hown
      obtain ⟨h7, hS9⟩ := HS.out.push (zc := zc) HN0.out HC0.out HZF.out HDO.out HNM.out hown hgrow
      have HS9 := Lib.hid hS9
      have hF9 : Fr (fun k => v.ownBlock = some k) r0 w9 := ((Fr.refl _ r0).alloc _).grown hgrow fun k e => .inl e
      have H99 := Lib.hid (hF9.blk H90.out fun e => blk_not_own H90.out HOV.out (by decide) e)
      have hn10 : ¬ v.ownBlock = some B10 := fun e => by
        have h1 := own_old HS.out.own e
        have h2 := HB10.out
        omega
      have H109 := Lib.hid (hF9.blk H100.out hn10)
      have H79 := Lib.hid h7
      rw [← HNZ.out] at HS9
      refine hK.out _ _ (HSK.out _ H99.out H109.out) (fun hHeld => ?_)
      clear hK K'
      (try simp only [Act.put, List.getElem_toArray, List.getElem_cons_zero, List.getElem_cons_succ, List.setIfInBounds_toArray, List.set_cons_zero, List.set_cons_succ])
      refine wpAnyH_ready (rs := [5]) (by kernel_rfl) (by simp) ?_
      refine AllReadyH.cons rfl (fun K' hK => ?_) AllReadyH.nil
      (try simp only [List.getElem_toArray, List.getElem_cons_zero, List.getElem_cons_succ])
      obtain ⟨q0, q1, q2, q3⟩ := box2_c H79.out
      go_simp
      have HS10 : Hid (SmS w ((w9.setCell ⟨B7, 0, none⟩ (.slice za nz zc)).setCell ⟨B7, 1, none⟩ (.int .i64 K)) B2 B7 X L (ms ++ [m]) Z K za zc (.slice (some ⟨g, 0, none⟩) (nm + 1) cap)) := HS9
      have hF7 := set2_fr w9 B7 (.slice za nz zc) (.int .i64 K)
      have hn9 : ¬ B9 = B7 := fun e => by
        have h1 := (Array.getElem?_eq_some_iff.1 HS.out.now).1
        have h2 := HB9.out
        omega
      have hn10' : ¬ B10 = B7 := fun e => by
        have h1 := (Array.getElem?_eq_some_iff.1 HS.out.now).1
        have h2 := HB10.out
        omega
      refine hK.out _ _ (HSK.out _ (hF7.blk H99.out hn9) (hF7.blk H109.out hn10')) (fun hHeld => ?_)
      clear hK K'
      (try simp only [Act.put, List.getElem_toArray, List.getElem_cons_zero, List.getElem_cons_succ, List.setIfInBounds_toArray, List.set_cons_zero, List.set_cons_succ])
      refine' wpAnyH_take (i := 6) (v := _) rfl (by kernel_rfl) (by kernel_rfl) (by kernel_rfl) (fun _ _ _ h => h) (Or.inl ⟨by rfl, ?hy⟩) (by assumption) ?rest
      case hy => (intro w' hSw; (try dsimp only at hSw); go_simp <;> with_reducible rfl)
      case rest =>
      (try simp only [Act.put, List.getElem_toArray, List.getElem_cons_zero, List.getElem_cons_succ, List.setIfInBounds_toArray, List.set_cons_zero, List.set_cons_succ])
      refine wpAnyH_done (by kernel_rfl) ?_ _
      dsimp only
      go_wp2_with fail
      refine wp_goto ?_
      have hv : lenV v = nm := by
        obtain ⟨av, cv, e, _⟩ := own_shape2 HS.out.own
        rw [e, HNM.out]; rfl
      refine ⟨rfl, ⟨_, _, _, _, _, _, _, _, _, _, _, _, _, _, _, _, _, _, _, _, _, _, _, _, _, _, _, _, _, _, _, _, b, B7, ms ++ [m], Z, K, za, zc, _, rfl, HS10⟩, ?_⟩
      show 40 - (nm + 1) < 40 - lenV v
      omega
    · obtain ⟨w6, HW6⟩ : ∃ w6, Hid (w6 = (w4.alloc (.cells #[.slice none 0 0, .int .i64 0] 24)).alloc (.cells #[.int .i64 0, .int .i64 0, .int .i64 0, .int .i64 0, .bool false, .int .i64 0, .bool false, .bool false] 28)) := ⟨_, Lib.hid rfl⟩
      have HS6 : Hid (SmS w w6 B2 B7 X L ms Y N ya yc v) := Lib.hid (by rw [HW6.out]; exact HS.out.nw ((hN.alloc _).alloc _))
      have HST : Hid (Stuck Y N) := Lib.hid ⟨hs1, hs2⟩
      clear hN hs1 hs2
      obtain ⟨q0, q1, _, _⟩ := box2_c HS6.out.now
      rw [← HNY.out] at q0
      obtain ⟨r0, r1, r2, r3⟩ := box2_c HS6.out.res
      obtain ⟨wa, HWA⟩ : ∃ wa, Hid (wa = (w6.setCell ⟨B2, 0, none⟩ (.slice ya ny yc)).setCell ⟨B2, 1, none⟩ (.int .i64 N)) := ⟨_, Lib.hid rfl⟩
      have HF : Hid (Fr (fun k => k = B2) w6 wa) := Lib.hid (by rw [HWA.out]; exact set2_fr w6 B2 _ _)
      have HB : Hid (wa.heap[B2]? = some (.cells #[.slice ya ny yc, .int .i64 N] 24 (0, 0))) := Lib.hid (by rw [HWA.out]; exact set2_blk HS6.out.res _ _)
      rw [HW6.out] at q0 q1 r0 r1 r2 r3
      go_wp2
      rw [← HW6.out, ← HWA.out]
      obtain ⟨v0, v1, _, _⟩ := box2_c HB.out
      show bodyPost Tryz.prog Tryz.f10 _ Exit.ret _ _
      refine bodyPost_ret (v := .tuple #[.agg #[.slice ya ny yc, .int .i64 N], v, .int .i64 0]) (by simp [results, Tryz.results10, go_sem, v0, v1]) rfl ⟨HS6.out.new.next HF.out fun i hi => .inr (by rw [hi]; exact hl2), .inl ⟨?_, ms, Y, N, ya, yc, v, by rw [HNY.out], ?_, ?_, HS6.out.run, HGO.out, HS6.out.len, HST.out⟩⟩
      · exact HS6.out.gx
      · exact HS6.out.crs.off1 HS6.out.res HF.out
      · exact HF.out.owns HS6.out.own fun k hk e => blk_not_own HS6.out.res HS6.out.own (by decide) (e ▸ hk)
  case first =>
    intro hp
    obtain ⟨p0, p1, _, _⟩ := box2_c HM1.out
    go_wp2_with fail
    clear p0 p1
    refine (open_any a n c X L w1 (New.crs HN1.out HX.out) HN.out lx l1 l2).mono ?_
    rintro e w2 ⟨hF, h5⟩
    rcases h5 with ⟨ho, b, s, fv, rfl, hbe, _, hb, hs⟩ | ⟨ho, rfl⟩
    · have HN2 := Lib.hid (HN1.out.trans hF)
      have HR2 := Lib.hid (hF.blk HR1.out fun x => x)
      have HGD : Hid (Good X L) := Lib.hid (by rw [Bool.and_eq_true] at ho; exact ho)
      obtain ⟨sa, sc, g0, g1, gc⟩ := hbe.sh.crs
      obtain ⟨c0, _⟩ := hbe.c
      have HGC := Lib.hid gc
      rw [← HN.out] at g0
      clear hF ho hbe hb hs gc
      go_wp2_with fail
      clear g0 g1 c0
      have HS0 : Hid (SmS w (w2.alloc (.cells #[.slice sa n sc, .int .i64 L] 24)) B2 w2.heap.size X L [] X L sa sc (.slice none 0 0)) := Lib.hid (by
        have h7 := heap_alloc_new w2 (.cells #[.slice sa n sc, .int .i64 L] 24)
        have hN : New w2 (w2.alloc (.cells #[.slice sa n sc, .int .i64 L] 24)) := (Fr.refl _ w2).alloc _
        have hlt := (Array.getElem?_eq_some_iff.1 HR2.out).1
        have hsz := HN2.out.size
        exact ⟨HN2.out.trans hN, hN.blk HR2.out fun x => x, by rw [← HN.out]; exact h7, New.crs hN HGC.out, ⟨rfl, .inl ⟨rfl, rfl⟩⟩, rfl, HGD.out, by simp, hl2, by omega, by omega, HGD.out⟩)
      refine wp_label ?_
      rename_i hk
      refine hk _ _ ?_
      exact hp _ _ ⟨_, _, _, _, _, _, _, _, _, _, _, _, _, _, _, _, _, _, _, _, _, _, _, _, _, _, _, _, _, _, _, _, b, w2.heap.size, [], X, L, sa, sc, .slice none 0 0, rfl, HS0⟩
    · have HN2 := Lib.hid (HN1.out.trans hF)
      have HR2 := Lib.hid (hF.blk HR1.out fun x => x)
      have HO : Hid (¬ Good X L) := Lib.hid (fun h => by rw [h.1, h.2] at ho; cases ho)
      clear hF ho
      obtain ⟨r0, r1, r2, r3⟩ := box2_c HR2.out
      obtain ⟨v0, v1, _, _⟩ := box2_c (set2_blk HR2.out (.slice none 0 0) (.int .i64 0))
      have HF3 := Lib.hid (set2_fr w2 B2 (.slice none 0 0) (.int .i64 0))
      go_wp2
      show bodyPost Tryz.prog Tryz.f10 _ Exit.ret _ _
      refine bodyPost_ret (v := .tuple #[.agg #[.slice none 0 0, .int .i64 0], .slice none 0 0, .int .i64 7]) (by simp [results, Tryz.results10, go_sem, v0, v1]) rfl ⟨HN2.out.next HF3.out fun i hi => .inr (by rw [hi]; exact hl2), .inr ⟨HO.out, rfl⟩⟩
end Go.Proofs.YtgjmjbgicfkojaaGreat
