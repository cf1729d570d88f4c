/- Walks: Row, of moves that are done. -/
import Derived.Test.YtgjmjbgicfkojaaGreatN18
namespace Go.Proofs.YtgjmjbgicfkojaaGreat
open Go.RowKit

theorem mvCells_at : ∀ (ms : List Mv) (k : Nat) (hk : k < ms.length) (j : Nat), j < 8 → (mvCells ms)[k * 8 + j]? = (ms[k]).cells[j]?
  | m :: ms, 0, _, j, hj => by
    obtain ⟨k', x', y', e, _⟩ := m.parts
    show (m.cells ++ mvCells ms)[0 * 8 + j]? = m.cells[j]?
    rw [Nat.zero_mul, Nat.zero_add, List.getElem?_append_left (by rw [e]; simpa using hj)]
  | m :: ms, k + 1, hk, j, hj => by
    obtain ⟨k', x', y', e, _⟩ := m.parts
    have i := mvCells_at ms k (by simpa using hk) j hj
    have hk' : k < ms.length := by simpa using hk
    show (m.cells ++ mvCells ms)[(k + 1) * 8 + j]? = (ms[k]).cells[j]?
    rw [List.getElem?_append_right (by rw [e]; simp; omega), ← i]
    congr 1
    rw [e]
    simp
    omega
theorem own_mv {w : World} {base n c g : Nat} {ms : List Mv} (h : w.ownsRow base 28 8 (.slice (some ⟨g, 0, none⟩) n c) ms.length (mvCells ms)) {k : Nat} (hk : k < ms.length) {j : Nat} {u : Value} (hj : j < 8) (hu : (ms[k]).cells[j]? = some u) : w.cell? ⟨g, k * 8 + j, none⟩ = some u := by
  have := World.ownsRow.cells h (g := g) rfl (k * 8 + j) u (by rw [mvCells_at ms k hk j hj]; exact hu)
  rwa [addr_add, Nat.zero_add] at this
/- Row at work -/
structure RwS (w wr : World) (B2 B7 : Nat) (ms : List Mv) (Z : List Kn.Cr) (K : Int) (Y : List Kn.Cr) (N : Int) (ya : Option Addr) (yc : Nat) : Prop where
  new : New w wr
  res : wr.heap[B2]? = some (.cells #[.slice none 0 0, .int .i64 0] 24 (0, 0))
  now : wr.heap[B7]? = some (.cells #[.slice ya Y.length yc, .int .i64 N] 24 (0, 0))
  crs : CrsAt wr ya Y
  run : runM Y N ms = some (Z, K)
  good : Good Y N
  l7 : w.heap.size ≤ B7
  ne : ¬ B2 = B7
theorem RwS.nw {w wr w' : World} {B2 B7 : Nat} {ms : List Mv} {Z : List Kn.Cr} {K : Int} {Y : List Kn.Cr} {N : Int} {ya : Option Addr} {yc : Nat} (h : RwS w wr B2 B7 ms Z K Y N ya yc) (hf : New wr w') : RwS w w' B2 B7 ms Z K Y N ya yc :=
  ⟨h.new.trans hf, hf.blk h.res fun x => x, hf.blk h.now fun x => x, New.crs hf h.crs, h.run, h.good, h.l7, h.ne⟩
theorem RwS.step {w wr w6 : World} {B2 B7 : Nat} {m : Mv} {ms : List Mv} {Z : List Kn.Cr} {K : Int} {Y Y' : List Kn.Cr} {N N' : Int} {ya za : Option Addr} {yc zc : Nat} (h : RwS w wr B2 B7 (m :: ms) Z K Y N ya yc) (hN : New wr w6) (hz : CrsAt w6 za Y') (hf : ∀ ad, za = some ad → wr.heap.size ≤ ad.block) (hd : doM Y N m = .ok Y' N') :
    RwS w (set2 w6 B7 (.slice za Y'.length zc) (.int .i64 N')) B2 B7 ms Z K Y' N' za zc := by
  have hS := set2_fr w6 B7 (.slice za Y'.length zc) (.int .i64 N')
  have hb7 := (Array.getElem?_eq_some_iff.1 h.now).1
  have hr := h.run
  have hr : (match doM Y N m with | .ok Y N => runM Y N ms | .no _ => none) = some (Z, K) := hr
  rw [hd] at hr
  exact ⟨(h.new.trans hN).next hS fun i hi => .inr (by rw [hi]; exact h.l7), hS.blk (hN.blk h.res fun x => x) h.ne, set2_blk (hN.blk h.now fun x => x) _ _, hz.off2 (fun ad e hk => by have := hf ad e; omega) hS, hr, (doM_good h.good hd).1, h.l7, h.ne⟩
def GaveRow (Z : List Kn.Cr) (K : Int) (nl : Nat) (w : World) (e : Ending) (w' : World) : Prop :=
  New w w' ∧ ∃ a c, e = .returned (.tuple #[.agg #[.slice a Z.length c, .int .i64 K], .int .i64 nl, .int .i64 0]) ∧ CrsAt w' a Z
set_option maxRecDepth 100000 in
set_option maxHeartbeats 8000000 in
theorem row_any (a : Option Addr) (n c base : Nat) (v : Value) (X Z : List Kn.Cr) (L K : Int) (ms : List Mv) (w : World) (hx : CrsAt w a X) (hn : n = X.length) (hg : Good X L) (hv : w.ownsRow base 28 8 v ms.length (mvCells ms)) (hm : ms.length ≤ 16) (hr : runM X L ms = some (Z, K)) :
    Calls Tryz.prog 11 #[.agg #[.slice a n c, .int .i64 L], v] w (GaveRow Z K ms.length w) := by
  obtain ⟨lv, cv, rfl, _⟩ := own_shape2 hv
  obtain ⟨nl, HNL⟩ : ∃ nl, Hid (nl = ms.length) := ⟨_, Lib.hid rfl⟩
  have HX := Lib.hid hx
  have HN := Lib.hid hn
  have HG := Lib.hid hg
  have HV := Lib.hid hv
  have HRU := Lib.hid hr
  rw [← HNL.out] at hm ⊢
  have hn16 : n ≤ 16 := by rw [hn]; exact (mayB_ok hg.1).2
  have hLb : 0 ≤ L ∧ L ≤ 16 := by
    have h2 := hg.1
    unfold Kn.mayB at h2
    simp only [Bool.and_eq_true, decide_eq_true_eq] at h2
    exact ⟨h2.1.1.1.2, h2.1.1.2⟩
  clear hx hn hg hv hr
  obtain ⟨w1, HW1⟩ : ∃ w1, Hid (w1 = (w.alloc (.cells #[.slice a n c, .int .i64 L] 24)).alloc (.cells #[.slice none 0 0, .int .i64 0] 24)) := ⟨_, Lib.hid rfl⟩
  obtain ⟨B1, HB1⟩ : ∃ B, Hid (B = w.heap.size) := ⟨_, Lib.hid rfl⟩
  obtain ⟨B2, HB2⟩ : ∃ B, Hid (B = w.heap.size + 1) := ⟨_, Lib.hid rfl⟩
  have HN1 : Hid (New w w1) := Lib.hid (by rw [HW1.out]; exact ((Fr.refl _ w).alloc _).alloc _)
  have HR1 : Hid (w1.heap[B2]? = some (.cells #[.slice none 0 0, .int .i64 0] 24 (0, 0))) := Lib.hid (by
    have h := heap_alloc_new (w.alloc (.cells #[.slice a n c, .int .i64 L] 24)) (.cells #[.slice none 0 0, .int .i64 0] 24)
    rw [World.size_alloc] at h
    rw [HW1.out, HB2.out]; exact h)
  have hl2 : w.heap.size ≤ B2 := by have := HB2.out; omega
  go_enter Tryz.func11, Tryz.ntmps11
  go_wp2_with fail
  rw [← HW1.out, ← HB2.out, ← HB1.out]
  refine (open_any a n c X L w1 (New.crs HN1.out HX.out) HN.out (by omega) (by omega) (by omega)).mono ?_
  rintro e w2 ⟨hF, h5⟩
  rcases h5 with ⟨ho, b, s, fv, rfl, hbe, _, hb, hs⟩ | ⟨ho, rfl⟩
  · have HN2 := Lib.hid (HN1.out.trans hF)
    have HR2 := Lib.hid (hF.blk HR1.out fun x => x)
    obtain ⟨sa, sc, g0, g1, gc⟩ := hbe.sh.crs
    obtain ⟨c0, _⟩ := hbe.c
    have HGC := Lib.hid gc
    rw [← HN.out] at g0
    have hnl : ¬ (200 : Int) < (nl : Int) := by omega
    clear hF ho hbe hb hs gc
    go_wp2_with fail
    clear g0 g1 c0
    have HS0 : Hid (RwS w (w2.alloc (.cells #[.slice sa n sc, .int .i64 L] 24)) B2 w2.heap.size (ms.drop 0) Z K X L sa sc) := Lib.hid (by
      have h7 := heap_alloc_new w2 (.cells #[.slice sa n sc, .int .i64 L] 24)
      have hN : New w2 (w2.alloc (.cells #[.slice sa n sc, .int .i64 L] 24)) := (Fr.refl _ w2).alloc _
      have hlt := (Array.getElem?_eq_some_iff.1 HR2.out).1
      have hsz := HN2.out.size
      exact ⟨HN2.out.trans hN, hN.blk HR2.out fun x => x, by rw [← HN.out]; exact h7, New.crs hN HGC.out, by rw [List.drop_zero]; exact HRU.out, HG.out, by omega, by omega⟩)
    obtain ⟨B7, HB7⟩ : ∃ B, Hid (B = w2.heap.size) := ⟨_, Lib.hid rfl⟩
    rw [← HB7.out] at HS0 ⊢
    have hwl : w.heap.size ≤ w2.heap.size := HN2.out.size
    go_loopw [35] (fun i wr => ∃ k : Nat, k ≤ nl ∧ i = .int .i64 k ∧ Hid (∃ Y N ya yc, RwS w wr B2 B7 (ms.drop k) Z K Y N ya yc)) (fun i _ => nl - (intOf i).toNat)
    case atStart => exact ⟨0, by omega, rfl, Lib.hid ⟨_, _, _, _, HS0.out⟩⟩
    case round =>
      obtain ⟨k, hk, rfl, HE⟩ := hrel
      obtain ⟨Y, N, ya, yc, hsx⟩ := HE.out
      by_cases hkl : k < nl
      · have hkm : k < ms.length := by have := HNL.out; omega
        obtain ⟨m, HMM⟩ : ∃ m, Hid (m = ms[k]) := ⟨_, Lib.hid rfl⟩
        rw [List.drop_eq_getElem_cons hkm, ← HMM.out] at hsx
        have HS := Lib.hid hsx
        clear hsx HE
        obtain ⟨k', x', y', hmc, hmv⟩ := m.parts
        obtain ⟨Y', N', hdo⟩ : ∃ Y' N', doM Y N m = .ok Y' N' := by
          have hr := HS.out.run
          have hr : (match doM Y N m with | .ok Y N => runM Y N (ms.drop (k + 1)) | .no _ => none) = some (Z, K) := hr
          cases hd : doM Y N m with
          | ok A B => exact ⟨A, B, rfl⟩
          | no x => rw [hd] at hr; cases hr
        obtain ⟨gv, e0⟩ : ∃ gv, lv = some ⟨gv, 0, none⟩ := by
          rcases HV.out.2 with ⟨_, h0'⟩ | ⟨g, cap, cur, e, _⟩
          · omega
          · injection e with e1 _ _; exact ⟨g, e1⟩
        subst e0
        have hvr := HS.out.new.owns HV.out fun _ _ x => x
        have hcj : ∀ {j : Nat} {u : Value}, j < 8 → m.cells[j]? = some u → wr.cell? ⟨gv, k * 8 + j, none⟩ = some u := fun hj hu => own_mv hvr hkm hj (by rw [← HMM.out]; exact hu)
        have x0 : wr.cell? ⟨gv, k * 8, none⟩ = some (.int .i64 k') := hcj (j := 0) (by omega) (by rw [hmc]; rfl)
        have x1 : wr.cell? ⟨gv, k * 8 + 1, none⟩ = some (.int .i64 x') := hcj (by omega) (by rw [hmc]; rfl)
        have x2 : wr.cell? ⟨gv, k * 8 + 2, none⟩ = some (.int .i64 y') := hcj (by omega) (by rw [hmc]; rfl)
        have x3 : wr.cell? ⟨gv, k * 8 + 3, none⟩ = some (.int .i64 0) := hcj (by omega) (by rw [hmc]; rfl)
        have x4 : wr.cell? ⟨gv, k * 8 + 4, none⟩ = some (.bool false) := hcj (by omega) (by rw [hmc]; rfl)
        have x5 : wr.cell? ⟨gv, k * 8 + 5, none⟩ = some (.int .i64 0) := hcj (by omega) (by rw [hmc]; rfl)
        have x6 : wr.cell? ⟨gv, k * 8 + 6, none⟩ = some (.bool false) := hcj (by omega) (by rw [hmc]; rfl)
        have x7 : wr.cell? ⟨gv, k * 8 + 7, none⟩ = some (.bool false) := hcj (by omega) (by rw [hmc]; rfl)
        have i1 : (0 : Int) ≤ (k : Int) := by omega
        have i2 : (k : Int) < (nl : Int) := by omega
        have hll : ms.length = nl := HNL.out.symm
        have HSa := Lib.hid (HS.out.nw ((Fr.refl _ wr).alloc (.cells #[.int .i64 k', .int .i64 x', .int .i64 y', .int .i64 0, .bool false, .int .i64 0, .bool false, .bool false] 28)))
        obtain ⟨ny, HNY⟩ : ∃ ny, Hid (ny = Y.length) := ⟨_, Lib.hid rfl⟩
        obtain ⟨q0, q1, _, _⟩ := box2_c HSa.out.now
        rw [← HNY.out] at q0
        obtain ⟨m0, m1, m2, m3, m4, m5, m6, m7⟩ := eight_c (heap_alloc_new wr (.cells #[.int .i64 k', .int .i64 x', .int .i64 y', .int .i64 0, .bool false, .int .i64 0, .bool false, .bool false] 28))
        have hny16 : ny ≤ 16 := by have := (mayB_ok HS.out.good.1).2; have := HNY.out; omega
        have hNb : 0 ≤ N ∧ N ≤ 16 := by
          have h2 := HS.out.good.1
          unfold Kn.mayB at h2
          simp only [Bool.and_eq_true, decide_eq_true_eq] at h2
          exact ⟨h2.1.1.1.2, h2.1.1.2⟩
        have hdm := do_mv m ya ny yc Y N _ HSa.out.crs HNY.out (by omega) (by omega) (by omega)
        rw [hmv, hdo] at hdm
        have HDM := Lib.hid hdm
        have HDO := Lib.hid hdo
        clear hdm hdo hvr hcj hmc hmv
        go_wp2_with fail
        clear x0 x1 x2 x3 x4 x5 x6 x7 m0 m1 m2 m3 m4 m5 m6 m7 q0 q1
        refine HDM.out.mono ?_
        rintro e w4 ⟨hN, za, zc, rfl, hzc, hzf⟩
        obtain ⟨nz, HNZ⟩ : ∃ nz, Hid (nz = Y'.length) := ⟨_, Lib.hid rfl⟩
        rw [← HNZ.out]
        obtain ⟨w6, HW6⟩ : ∃ w6, Hid (w6 = w4.alloc (.cells #[.slice za nz zc, .int .i64 N'] 24)) := ⟨_, Lib.hid rfl⟩
        have hn6 : New (wr.alloc (.cells #[.int .i64 k', .int .i64 x', .int .i64 y', .int .i64 0, .bool false, .int .i64 0, .bool false, .bool false] 28)) w6 := by rw [HW6.out]; exact hN.alloc _
        have hst := HSa.out.step (zc := zc) hn6 (by rw [HW6.out]; exact New.crs ((Fr.refl _ w4).alloc _) hzc) hzf HDO.out
        rw [← HNZ.out] at hst
        have HST : Hid (RwS w ((w6.setCell ⟨B7, 0, none⟩ (.slice za nz zc)).setCell ⟨B7, 1, none⟩ (.int .i64 N')) B2 B7 (ms.drop (k + 1)) Z K Y' N' za zc) := Lib.hid hst
        obtain ⟨p0, p1, _, _⟩ := box2_c (heap_alloc_new w4 (.cells #[.slice za nz zc, .int .i64 N'] 24))
        obtain ⟨r0, r1, r2, r3⟩ := box2_c (hn6.blk HSa.out.now fun x => x)
        rw [← HNY.out] at r0
        rw [HW6.out] at r0 r1 r2 r3 HST
        clear hN hzc hzf hst hn6 HW6
        go_wp2
        go_roundw
        case rel => exact ⟨k + 1, by omega, by go_num, Lib.hid ⟨_, _, _, _, HST.out⟩⟩
        case measure => simp [intOf]; omega
      · obtain rfl : nl = k := by omega
        rw [HNL.out, List.drop_length] at hsx
        have HS := Lib.hid hsx
        have hr := hsx.run
        simp only [runM, Option.some.injEq, Prod.mk.injEq] at hr
        obtain ⟨rfl, rfl⟩ := hr
        clear hsx HE
        obtain ⟨ny, HNY⟩ : ∃ ny, Hid (ny = Y.length) := ⟨_, Lib.hid rfl⟩
        obtain ⟨q0, q1, _, _⟩ := box2_c HS.out.now
        rw [← HNY.out] at q0
        obtain ⟨r0, r1, r2, r3⟩ := box2_c HS.out.res
        obtain ⟨wa, HWA⟩ : ∃ wa, Hid (wa = (wr.setCell ⟨B2, 0, none⟩ (.slice ya ny yc)).setCell ⟨B2, 1, none⟩ (.int .i64 N)) := ⟨_, Lib.hid rfl⟩
        have HF : Hid (Fr (fun k => k = B2) wr wa) := Lib.hid (by rw [HWA.out]; exact set2_fr wr B2 _ _)
        have HB : Hid (wa.heap[B2]? = some (.cells #[.slice ya ny yc, .int .i64 N] 24 (0, 0))) := Lib.hid (by rw [HWA.out]; exact set2_blk HS.out.res _ _)
        have hll : ms.length = nl := HNL.out.symm
        go_wp2
        rw [← HWA.out]
        obtain ⟨v0, v1, _, _⟩ := box2_c HB.out
        refine bodyPost_ret (v := .tuple #[.agg #[.slice ya ny yc, .int .i64 N], .int .i64 nl, .int .i64 0]) (by simp [results, Tryz.results11, go_sem, v0, v1]) rfl ⟨HS.out.new.next HF.out fun i hi => .inr (by rw [hi]; exact hl2), ya, yc, by rw [HNY.out], HS.out.crs.off1 HS.out.res HF.out⟩
  · rw [HG.out.1, HG.out.2] at ho; cases ho
end Go.Proofs.YtgjmjbgicfkojaaGreat
