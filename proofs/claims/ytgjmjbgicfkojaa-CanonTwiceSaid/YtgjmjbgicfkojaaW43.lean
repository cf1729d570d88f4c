/- Walks: Reverse. -/
import Derived.Test.YtgjmjbgicfkojaaW41
import Derived.Test.YtgjmjbgicfkojaaW42
namespace Go.Proofs.Ytgjmjbgicfkojaa
open Go.RowKit

theorem strands_lit (b : Nat) (X : List Kn.Cr) (L : Int) (w : World) (h : ShAt w b X L) (hX : Kn.Ok X) (hl : X.length ≤ 16) (np : Nat) (hnp : np = (Kn.strandsL X).length) :
    Calls Try.prog 34 #[.pointer (some ⟨b, 0, none⟩)] w (fun e w' => ∃ a c, e = .returned (.slice a np c) ∧ New w w') := by
  refine (strands_any b X L w h hX hl).mono ?_
  rintro e w1 ⟨v, rfl, hr, hF⟩
  obtain ⟨a, c, rfl⟩ := hr.sl
  exact ⟨a, c, by rw [hnp], hF⟩
set_option maxRecDepth 100000 in
set_option maxHeartbeats 8000000 in
theorem reverse_any (a : Option Addr) (n c p : Nat) (X : List Kn.Cr) (L : Int) (w : World) (hx : CrsAt w a X) (hn : n = X.length) (lx : n ≤ 9223372036854775807) (l1 : -9223372036854775808 ≤ L) (l2 : L ≤ 9223372036854775807) (hm : Kn.mayB X L = true) (hp : p < (Kn.strandsL X).length) :
    Calls Try.prog 21 #[.agg #[.slice a n c, .int .i64 L], .int .i64 (p : Nat)] w (GaveMir (Kn.revL (Kn.onPart X p) X) L w) := by
  have HN := Lib.hid hn
  have HX := Lib.hid hx
  have HM := Lib.hid hm
  have HOK := Lib.hid (mayB_ok hm)
  have hn16 : n ≤ 16 := by have := (mayB_ok hm).2; omega
  obtain ⟨np, HNP⟩ : ∃ np, Hid (np = (Kn.strandsL X).length) := ⟨_, Lib.hid rfl⟩
  have hpn : p < np := by have := HNP.out; omega
  have hnp : np ≤ 32 := by have := HNP.out; have := strands_few X; unfold Kn.nArcs at this; omega
  have HP := Lib.hid hp
  have hp0 : (0 : Int) ≤ (p : Int) := by omega
  have hp1 : (p : Int) < (np : Int) := by omega
  obtain ⟨m, HMm⟩ : ∃ m, Hid (m = Kn.nArcs X) := ⟨_, Lib.hid rfl⟩
  have hm32 : m ≤ 32 := by have := HMm.out; unfold Kn.nArcs at this; omega
  clear hx hn hm hp
  go_enter Try.func21, Try.ntmps21
  go_wp2_with fail
  have HN0 : Hid (New w ((w.alloc (.cells #[.slice a n c, .int .i64 L] 24)).alloc (.cells #[.slice none 0 0, .int .i64 0] 24))) := Lib.hid (((Fr.refl _ w).alloc _).alloc _)
  have HRS : Hid (((w.alloc (.cells #[.slice a n c, .int .i64 L] 24)).alloc (.cells #[.slice none 0 0, .int .i64 0] 24)).heap[w.heap.size + 1]? = some (.cells #[.slice none 0 0, .int .i64 0] 24 (0, 0))) := Lib.hid (by have := heap_alloc_new (w.alloc (.cells #[.slice a n c, .int .i64 L] 24)) (.cells #[.slice none 0 0, .int .i64 0] 24); rwa [World.size_alloc] at this)
  refine (new_any a n c X L _ (New.crs HN0.out HX.out) HN.out lx l1 l2).mono ?_
  rintro e w1 ⟨hF, h5⟩
  obtain ⟨_, b, rfl, hsa, _, v, bi, bo, base, hsh, hbs⟩ := h5.resolve_right (fun h => by have h1 := h.1; rw [HM.out] at h1; cases h1)
  obtain ⟨cs, HCS⟩ : ∃ cs, Hid (cs = shCells v L bi bo (mArcs X)) := ⟨_, Lib.hid rfl⟩
  have HI0 : Hid (MI w w1 (w.heap.size + 1) b v L cs base (mapTo (Kn.revC (Kn.onPart X p)) X 0)) := Lib.hid ⟨HN0.out.trans hF, by rw [HCS.out]; exact hsh.blk, by rw [mapTo_zero]; exact hsh.own, by have := HN0.out.size; omega, hF.blk HRS.out fun x => x, by omega⟩
  have HSA := Lib.hid hsa
  obtain ⟨s0, s1, _, _⟩ := hsh.c2
  obtain ⟨a1, c1, rfl, _⟩ := own_shape2 hsh.own
  rw [← HN.out] at s0 HI0 HCS
  clear hF h5 hsh hbs hsa
  go_wp2_with fail
  refine (strands_lit b X L _ HSA.out HOK.out.1 HOK.out.2 np HNP.out).mono ?_
  rintro e w2 ⟨_, _, rfl, hF⟩
  have HI2 := Lib.hid (HI0.out.nw hF)
  have HSA2 := Lib.hid (New.shAt hF HSA.out)
  have t0 := hF.cell s0 fun x => x
  clear hF s0 s1
  go_wp2_with fail
  refine (parts_any b X L _ HSA2.out HOK.out.1 HOK.out.2).mono ?_
  rintro e w3 ⟨pb, rfl, hrow, hF, hpb⟩
  rw [← HMm.out] at hrow ⊢
  have HI3 := Lib.hid (HI2.out.nw hF)
  have HR3 := Lib.hid hrow
  have u0 := hF.cell t0 fun x => x
  clear hF t0 hrow hpb
  go_wp2
  clear u0
  go_loopw [39] (fun i wr => ∃ k : Nat, k ≤ n ∧ i = .int .i64 k ∧ Hid (MI w wr (w.heap.size + 1) b (.slice a1 n c1) L cs base (mapTo (Kn.revC (Kn.onPart X p)) X k)) ∧ Hid (wr.rowIs pb 3 (m + 1) (numFn (partFn X (Kn.strandsL X).flatten)))) (fun i _ => n - (intOf i).toNat)
  case atStart => exact ⟨0, by omega, rfl, HI3, HR3⟩
  case round =>
    obtain ⟨k, hk, rfl, HI, HR⟩ := hrel
    by_cases hkn : k < n
    · have hkX : k < X.length := by have := HN.out; omega
      obtain ⟨g, cg, e0⟩ : ∃ g cg, Value.slice a1 n c1 = .slice (some ⟨g, 0, none⟩) n cg := by
        have := HI.out.own
        rw [mapTo_len, ← HN.out] at this
        rcases this.2 with ⟨_, h0'⟩ | ⟨g, cap, cur, e, _⟩
        · omega
        · exact ⟨g, cap, e⟩
      cases e0
      have hown := HI.out.own
      rw [mapTo_len, ← HN.out] at hown
      have hx5 := own_five hown (by rw [mapTo_len]; exact HN.out) (j := k) (by rw [mapTo_len]; exact hkX)
      rw [mapTo_cr hkX] at hx5
      obtain ⟨e1, e2, e3, e4, e5⟩ := arc_nat HOK.out.1 hkX
      obtain ⟨na, HNA⟩ : ∃ na, Hid (na = Kn.arcN X (k, 0)) := ⟨_, Lib.hid rfl⟩
      obtain ⟨nb, HNB⟩ : ∃ na, Hid (na = Kn.arcN X (k, 1)) := ⟨_, Lib.hid rfl⟩
      have hA := HOK.out.1.isArc (p := (k, 0)) ⟨hkX, by omega⟩
      have hB := HOK.out.1.isArc (p := (k, 1)) ⟨hkX, by omega⟩
      rw [← HNA.out] at e1 hA
      rw [← HNB.out] at e2 hB
      obtain ⟨xa, xb, xc, xd, xp, HXC⟩ := Kn.cr_parts' X k
      rw [HXC.out] at hx5 e1 e2
      simp only at e1 e2
      subst e1 e2
      obtain ⟨x1, x2, x3, x4, x5⟩ := hx5
      obtain ⟨pa, HPA⟩ : ∃ q, Hid (q = Kn.partOf X na) := ⟨_, Lib.hid rfl⟩
      obtain ⟨pq, HPQ⟩ : ∃ q, Hid (q = Kn.partOf X nb) := ⟨_, Lib.hid rfl⟩
      have hfl : ∀ z, Kn.isArc X z → partFn X (Kn.strandsL X).flatten z = Kn.partOf X z := fun z hz => by
        unfold partFn; rw [if_pos ((Kn.strands_perm HOK.out.1).mem_iff.2 (Kn.mem_arcs.2 hz))]
      obtain ⟨be, HBE⟩ : ∃ be : Bool, Hid (be = decide (pa = p)) := ⟨_, Lib.hid rfl⟩
      obtain ⟨ab, HAB⟩ : ∃ be : Bool, Hid (be = decide (pq = p)) := ⟨_, Lib.hid rfl⟩
      have hbe : ((pa : Int) == (p : Int)) = be := by rw [HBE.out, Bool.eq_iff_iff]; simp; omega
      have hab : ((pq : Int) == (p : Int)) = ab := by rw [HAB.out, Bool.eq_iff_iff]; simp; omega
      have hbe2 : decide ((pa : Int) = (p : Int)) = be := by rw [HBE.out, Bool.eq_iff_iff]; simp; omega
      have hab2 : decide ((pq : Int) = (p : Int)) = ab := by rw [HAB.out, Bool.eq_iff_iff]; simp; omega
      have hea : Kn.onPart X p na = be := by rw [HBE.out, HPA.out]; rfl
      have heb : Kn.onPart X p nb = ab := by rw [HAB.out, HPQ.out]; rfl
      have HEA := Lib.hid hea
      have HEB := Lib.hid heb
      have i1 : (0 : Int) ≤ (k : Int) := by omega
      have i2 : (k : Int) < (n : Int) := by omega
      have j1 : (0 : Int) ≤ (na : Int) := by omega
      have j2 : (na : Int) < (m : Int) + 1 := by have := hA.2; have := HMm.out; omega
      have j3 : (0 : Int) ≤ (nb : Int) := by omega
      have j4 : (nb : Int) < (m : Int) + 1 := by have := hB.2; have := HMm.out; omega
      have j5 : na < m + 1 := by omega
      have j6 : nb < m + 1 := by omega
      have HVA : Hid (partFn X (Kn.strandsL X).flatten na = pa) := Lib.hid (by rw [hfl na hA, HPA.out])
      have HVB : Hid (partFn X (Kn.strandsL X).flatten nb = pq) := Lib.hid (by rw [hfl nb hB, HPQ.out])
      clear hown e3 e4 e5 hA hB hfl hea heb
      go_wp2
      clear x1 x2 x3 x4 x5
      obtain ⟨w2', HW2⟩ : ∃ w2, Hid (w2 = wr.alloc (.cells #[.int .i64 (na : Nat), .int .i64 (nb : Nat), .int .i64 xc, .int .i64 xd, .bool xp] 42)) := ⟨_, Lib.hid rfl⟩
      obtain ⟨B7, HB⟩ : ∃ B, Hid (B = wr.heap.size) := ⟨_, Lib.hid rfl⟩
      rw [← HW2.out, ← HB.out]
      have hb7 : w2'.heap[B7]? = some (.cells #[.int .i64 (na : Nat), .int .i64 (nb : Nat), .int .i64 xc, .int .i64 xd, .bool xp] 42 (0, 0)) := by rw [HW2.out, HB.out]; exact heap_alloc_new _ _
      have HWR : Hid (New wr w2') := Lib.hid (by rw [HW2.out]; exact (Fr.refl _ wr).alloc _)
      obtain ⟨z1, z2, z3, z4, z5⟩ := five_of hb7
      have r1 := (HWR.out.row HR.out fun x => x).cell j5
      have r2 := (HWR.out.row HR.out fun x => x).cell j6
      simp only [numFn] at r1 r2
      rw [HVA.out] at r1
      rw [HVB.out] at r2
      have HB7 := Lib.hid hb7
      clear hb7
      go_quiet (fail)
      clear z1 z2 z3 z4 z5 r1 r2
      obtain ⟨w4, HW4⟩ : ∃ w4, Hid (w4 = w2'.drewN nq) := ⟨_, Lib.hid rfl⟩
      rw [← HW4.out]
      have HWR4 : Hid (New wr w4) := Lib.hid (by rw [HW4.out]; exact HWR.out.trans ((Fr.refl _ w2').drewN _))
      have HB74 : Hid (w4.heap[B7]? = some (.cells #[.int .i64 (na : Nat), .int .i64 (nb : Nat), .int .i64 xc, .int .i64 xd, .bool xp] 42 (0, 0))) := Lib.hid (by rw [HW4.out]; exact HB7.out)
      have hlw : wr.heap.size ≤ B7 := by rw [HB.out]; exact Nat.le_refl _
      cases be <;> cases ab
      · obtain ⟨z1, z2, z3, z4, z5, f1, f2, f3, f4, f5⟩ := box5_c HB74.out
        have hrev : Kn.revC (Kn.onPart X p) ⟨(na : Nat), (nb : Nat), xc, xd, xp⟩ = ⟨(na : Nat), (nb : Nat), xc, xd, xp⟩ := by
          unfold Kn.revC
          simp only [Int.toNat_natCast, HEA.out, HEB.out]
          simp
        have HREV := Lib.hid hrev
        have HI4 := Lib.hid (HI.out.nw HWR4.out)
        have HR4 := Lib.hid (HWR4.out.row HR.out fun x => x)
        have hbx : w4.drew.cell? ⟨b, 0, none⟩ = some (.slice (some ⟨g, 0, none⟩) n c1) := by
          have h1 := HI4.out.blk
          rw [HCS.out] at h1
          exact cell_of_row _ _ 0 _ 68 (0, 0) h1
        obtain ⟨y1, y2, y3, y4, y5⟩ : _ ∧ _ ∧ _ ∧ _ ∧ _ := five_of (show w4.drew.heap[B7]? = _ from HB74.out)
        clear hrev
        go_wp2
        go_still_tail 8, (by kernel_rfl)
        clear hbx y1 y2 y3 y4 y5
        change wpList _ _ _ _ _ w4.drew
        obtain ⟨w8, HW8⟩ : ∃ w8, Hid (w8 = w4.drew) := ⟨_, Lib.hid rfl⟩
        rw [← HW8.out]
        have HI5 : Hid (MI w w8 (w.heap.size + 1) b (.slice (some ⟨g, 0, none⟩) n c1) L cs base (mapTo (Kn.revC (Kn.onPart X p)) X k)) := Lib.hid (by rw [HW8.out]; exact HI4.out.nw (Fr.refl _ w4).drew)
        have HR5 : Hid (w8.rowIs pb 3 (m + 1) (numFn (partFn X (Kn.strandsL X).flatten))) := Lib.hid (by rw [HW8.out]; exact HR4.out)
        have hown := HI5.out.own
        rw [mapTo_len, ← HN.out] at hown
        have hx5 := own_five hown (by rw [mapTo_len]; exact HN.out) (j := k) (by rw [mapTo_len]; exact hkX)
        rw [mapTo_cr hkX, HXC.out] at hx5
        obtain ⟨x1, x2, x3, x4, x5⟩ := hx5
        have hfz := fun j => own_free hown j
        have HPU := Lib.hid (HI5.out.put (k := k) (x := Kn.revC (Kn.onPart X p) (Kn.cr X k)) (by rw [mapTo_len]; exact HN.out) (by rw [mapTo_len]; exact hkX))
        have HRR := Lib.hid ((fr_set5 w8 g k (Kn.revC (Kn.onPart X p) (Kn.cr X k)).a (Kn.revC (Kn.onPart X p) (Kn.cr X k)).b (Kn.revC (Kn.onPart X p) (Kn.cr X k)).c (Kn.revC (Kn.onPart X p) (Kn.cr X k)).d (Kn.revC (Kn.onPart X p) (Kn.cr X k)).p).row HR5.out (fun hB => own_ne hown HR5.out (by decide) g rfl hB.symm))
        rw [mapTo_succ hkX] at HPU
        rw [HXC.out, HREV.out] at HPU HRR
        clear hown
        go_wp2
        go_roundw
        case rel => exact ⟨k + 1, by omega, by go_num, HPU, HRR⟩
        case measure => simp [intOf]; omega
      · obtain ⟨z1, z2, z3, z4, z5, f1, f2, f3, f4, f5⟩ := box5_c HB74.out
        obtain ⟨w7, HW7⟩ : ∃ w7, Hid (w7 = w4.setCell ⟨B7, 4, none⟩ (.bool !xp)) := ⟨_, Lib.hid rfl⟩
        have hw7 : w4.setCell ⟨B7, 4, none⟩ (.bool !xp) = w7 := HW7.out.symm
        have HB77 : Hid (w7.heap[B7]? = some (.cells #[.int .i64 (na : Nat), .int .i64 (nb : Nat), .int .i64 xc, .int .i64 xd, .bool !xp] 42 (0, 0))) := Lib.hid (by
          have := HB74.out
          rw [HW7.out]; unfold World.setCell; simp [Array.getElem?_modify, this])
        have HWR7 : Hid (New wr w7) := Lib.hid (by rw [HW7.out]; exact HWR4.out.next ((Fr.refl (fun j => j = B7) w4).setCell (a := ⟨B7, 4, none⟩) (.inl rfl) _) fun i hi => .inr (by omega))
        have hrev : Kn.revC (Kn.onPart X p) ⟨(na : Nat), (nb : Nat), xc, xd, xp⟩ = ⟨(na : Nat), (nb : Nat), xc, xd, !xp⟩ := by
          unfold Kn.revC
          simp only [Int.toNat_natCast, HEA.out, HEB.out]
          simp
        have HREV := Lib.hid hrev
        have HI4 := Lib.hid (HI.out.nw HWR7.out)
        have HR4 := Lib.hid (HWR7.out.row HR.out fun x => x)
        have hbx : w7.drew.cell? ⟨b, 0, none⟩ = some (.slice (some ⟨g, 0, none⟩) n c1) := by
          have h1 := HI4.out.blk
          rw [HCS.out] at h1
          exact cell_of_row _ _ 0 _ 68 (0, 0) h1
        obtain ⟨y1, y2, y3, y4, y5⟩ : _ ∧ _ ∧ _ ∧ _ ∧ _ := five_of (show w7.drew.heap[B7]? = _ from HB77.out)
        clear hrev
        go_wp2
        clear z1 z2 z3 z4 z5 f1 f2 f3 f4 f5
        (try rw [hw7])
        go_still_tail 8, (by kernel_rfl)
        clear hbx y1 y2 y3 y4 y5
        change wpList _ _ _ _ _ w7.drew
        obtain ⟨w8, HW8⟩ : ∃ w8, Hid (w8 = w7.drew) := ⟨_, Lib.hid rfl⟩
        rw [← HW8.out]
        have HI5 : Hid (MI w w8 (w.heap.size + 1) b (.slice (some ⟨g, 0, none⟩) n c1) L cs base (mapTo (Kn.revC (Kn.onPart X p)) X k)) := Lib.hid (by rw [HW8.out]; exact HI4.out.nw (Fr.refl _ w7).drew)
        have HR5 : Hid (w8.rowIs pb 3 (m + 1) (numFn (partFn X (Kn.strandsL X).flatten))) := Lib.hid (by rw [HW8.out]; exact HR4.out)
        have hown := HI5.out.own
        rw [mapTo_len, ← HN.out] at hown
        have hx5 := own_five hown (by rw [mapTo_len]; exact HN.out) (j := k) (by rw [mapTo_len]; exact hkX)
        rw [mapTo_cr hkX, HXC.out] at hx5
        obtain ⟨x1, x2, x3, x4, x5⟩ := hx5
        have hfz := fun j => own_free hown j
        have HPU := Lib.hid (HI5.out.put (k := k) (x := Kn.revC (Kn.onPart X p) (Kn.cr X k)) (by rw [mapTo_len]; exact HN.out) (by rw [mapTo_len]; exact hkX))
        have HRR := Lib.hid ((fr_set5 w8 g k (Kn.revC (Kn.onPart X p) (Kn.cr X k)).a (Kn.revC (Kn.onPart X p) (Kn.cr X k)).b (Kn.revC (Kn.onPart X p) (Kn.cr X k)).c (Kn.revC (Kn.onPart X p) (Kn.cr X k)).d (Kn.revC (Kn.onPart X p) (Kn.cr X k)).p).row HR5.out (fun hB => own_ne hown HR5.out (by decide) g rfl hB.symm))
        rw [mapTo_succ hkX] at HPU
        rw [HXC.out, HREV.out] at HPU HRR
        clear hown
        go_wp2
        go_roundw
        case rel => exact ⟨k + 1, by omega, by go_num, HPU, HRR⟩
        case measure => simp [intOf]; omega
      · obtain ⟨z1, z2, z3, z4, z5, f1, f2, f3, f4, f5⟩ := box5_c HB74.out
        obtain ⟨ya, yb, yc, yd, HYE⟩ : ∃ ya yb yc yd, Hid (Kn.turnC ⟨(na : Nat), (nb : Nat), xc, xd, xp⟩ 2 = ⟨ya, yb, yc, yd, xp⟩) := ⟨_, _, _, _, Lib.hid rfl⟩
        go_wp2_with fail
        refine (turned_any _ _ xc xd xp 2 _ (by omega)).mono ?_
        rintro e w5 ⟨rfl, hF⟩
        rw [HYE.out]
        have HWR5 := Lib.hid (HWR4.out.trans hF)
        have HB75 := Lib.hid (hF.blk HB74.out fun x => x)
        clear hF z1 z2 z3 z4 z5 f1 f2 f3 f4 f5
        obtain ⟨z1, z2, z3, z4, z5, f1, f2, f3, f4, f5⟩ := box5_c HB75.out
        have HB76 := Lib.hid (box5_set HB75.out (.int .i64 ya) (.int .i64 yb) (.int .i64 yc) (.int .i64 yd) (.bool xp))
        have HWR6 := Lib.hid (HWR5.out.next (fr5 w5 B7 (.int .i64 ya) (.int .i64 yb) (.int .i64 yc) (.int .i64 yd) (.bool xp)) fun i hi => .inr (by omega))
        obtain ⟨w6, HW6⟩ : ∃ w6, Hid (w6 = ((((w5.setCell ⟨B7, 0, none⟩ (.int .i64 ya)).setCell ⟨B7, 1, none⟩ (.int .i64 yb)).setCell ⟨B7, 2, none⟩ (.int .i64 yc)).setCell ⟨B7, 3, none⟩ (.int .i64 yd)).setCell ⟨B7, 4, none⟩ (.bool xp)) := ⟨_, Lib.hid rfl⟩
        have hw6 : ((((w5.setCell ⟨B7, 0, none⟩ (.int .i64 ya)).setCell ⟨B7, 1, none⟩ (.int .i64 yb)).setCell ⟨B7, 2, none⟩ (.int .i64 yc)).setCell ⟨B7, 3, none⟩ (.int .i64 yd)).setCell ⟨B7, 4, none⟩ (.bool xp) = w6 := HW6.out.symm
        rw [← HW6.out] at HB76 HWR6
        obtain ⟨v1, v2, v3, v4, v5, g1, g2, g3, g4, g5⟩ := box5_c HB76.out
        obtain ⟨w7, HW7⟩ : ∃ w7, Hid (w7 = w6.setCell ⟨B7, 4, none⟩ (.bool !xp)) := ⟨_, Lib.hid rfl⟩
        have hw7 : w6.setCell ⟨B7, 4, none⟩ (.bool !xp) = w7 := HW7.out.symm
        have HB77 : Hid (w7.heap[B7]? = some (.cells #[.int .i64 ya, .int .i64 yb, .int .i64 yc, .int .i64 yd, .bool !xp] 42 (0, 0))) := Lib.hid (by
          have := HB76.out
          rw [HW7.out]; unfold World.setCell; simp [Array.getElem?_modify, this])
        have HWR7 : Hid (New wr w7) := Lib.hid (by rw [HW7.out]; exact HWR6.out.next ((Fr.refl (fun j => j = B7) w6).setCell (a := ⟨B7, 4, none⟩) (.inl rfl) _) fun i hi => .inr (by omega))
        have hrev : Kn.revC (Kn.onPart X p) ⟨(na : Nat), (nb : Nat), xc, xd, xp⟩ = ⟨ya, yb, yc, yd, !xp⟩ := by
          unfold Kn.revC
          simp only [Int.toNat_natCast, HEA.out, HEB.out]
          have := HYE.out
          simp [this]
        have HREV := Lib.hid hrev
        have HI4 := Lib.hid (HI.out.nw HWR7.out)
        have HR4 := Lib.hid (HWR7.out.row HR.out fun x => x)
        have hbx : w7.drew.cell? ⟨b, 0, none⟩ = some (.slice (some ⟨g, 0, none⟩) n c1) := by
          have h1 := HI4.out.blk
          rw [HCS.out] at h1
          exact cell_of_row _ _ 0 _ 68 (0, 0) h1
        obtain ⟨y1, y2, y3, y4, y5⟩ : _ ∧ _ ∧ _ ∧ _ ∧ _ := five_of (show w7.drew.heap[B7]? = _ from HB77.out)
        clear hrev
        go_wp2
        clear z1 z2 z3 z4 z5 f1 f2 f3 f4 f5
        (try rw [hw7])
        go_still_tail 8, (by kernel_rfl)
        clear hbx y1 y2 y3 y4 y5
        change wpList _ _ _ _ _ w7.drew
        obtain ⟨w8, HW8⟩ : ∃ w8, Hid (w8 = w7.drew) := ⟨_, Lib.hid rfl⟩
        rw [← HW8.out]
        have HI5 : Hid (MI w w8 (w.heap.size + 1) b (.slice (some ⟨g, 0, none⟩) n c1) L cs base (mapTo (Kn.revC (Kn.onPart X p)) X k)) := Lib.hid (by rw [HW8.out]; exact HI4.out.nw (Fr.refl _ w7).drew)
        have HR5 : Hid (w8.rowIs pb 3 (m + 1) (numFn (partFn X (Kn.strandsL X).flatten))) := Lib.hid (by rw [HW8.out]; exact HR4.out)
        have hown := HI5.out.own
        rw [mapTo_len, ← HN.out] at hown
        have hx5 := own_five hown (by rw [mapTo_len]; exact HN.out) (j := k) (by rw [mapTo_len]; exact hkX)
        rw [mapTo_cr hkX, HXC.out] at hx5
        obtain ⟨x1, x2, x3, x4, x5⟩ := hx5
        have hfz := fun j => own_free hown j
        have HPU := Lib.hid (HI5.out.put (k := k) (x := Kn.revC (Kn.onPart X p) (Kn.cr X k)) (by rw [mapTo_len]; exact HN.out) (by rw [mapTo_len]; exact hkX))
        have HRR := Lib.hid ((fr_set5 w8 g k (Kn.revC (Kn.onPart X p) (Kn.cr X k)).a (Kn.revC (Kn.onPart X p) (Kn.cr X k)).b (Kn.revC (Kn.onPart X p) (Kn.cr X k)).c (Kn.revC (Kn.onPart X p) (Kn.cr X k)).d (Kn.revC (Kn.onPart X p) (Kn.cr X k)).p).row HR5.out (fun hB => own_ne hown HR5.out (by decide) g rfl hB.symm))
        rw [mapTo_succ hkX] at HPU
        rw [HXC.out, HREV.out] at HPU HRR
        clear hown
        go_wp2
        go_roundw
        case rel => exact ⟨k + 1, by omega, by go_num, HPU, HRR⟩
        case measure => simp [intOf]; omega
      · obtain ⟨z1, z2, z3, z4, z5, f1, f2, f3, f4, f5⟩ := box5_c HB74.out
        obtain ⟨ya, yb, yc, yd, HYE⟩ : ∃ ya yb yc yd, Hid (Kn.turnC ⟨(na : Nat), (nb : Nat), xc, xd, xp⟩ 2 = ⟨ya, yb, yc, yd, xp⟩) := ⟨_, _, _, _, Lib.hid rfl⟩
        go_wp2_with fail
        refine (turned_any _ _ xc xd xp 2 _ (by omega)).mono ?_
        rintro e w5 ⟨rfl, hF⟩
        rw [HYE.out]
        have HWR5 := Lib.hid (HWR4.out.trans hF)
        have HB75 := Lib.hid (hF.blk HB74.out fun x => x)
        clear hF z1 z2 z3 z4 z5 f1 f2 f3 f4 f5
        obtain ⟨z1, z2, z3, z4, z5, f1, f2, f3, f4, f5⟩ := box5_c HB75.out
        have HB76 := Lib.hid (box5_set HB75.out (.int .i64 ya) (.int .i64 yb) (.int .i64 yc) (.int .i64 yd) (.bool xp))
        have HWR6 := Lib.hid (HWR5.out.next (fr5 w5 B7 (.int .i64 ya) (.int .i64 yb) (.int .i64 yc) (.int .i64 yd) (.bool xp)) fun i hi => .inr (by omega))
        obtain ⟨w6, HW6⟩ : ∃ w6, Hid (w6 = ((((w5.setCell ⟨B7, 0, none⟩ (.int .i64 ya)).setCell ⟨B7, 1, none⟩ (.int .i64 yb)).setCell ⟨B7, 2, none⟩ (.int .i64 yc)).setCell ⟨B7, 3, none⟩ (.int .i64 yd)).setCell ⟨B7, 4, none⟩ (.bool xp)) := ⟨_, Lib.hid rfl⟩
        have hw6 : ((((w5.setCell ⟨B7, 0, none⟩ (.int .i64 ya)).setCell ⟨B7, 1, none⟩ (.int .i64 yb)).setCell ⟨B7, 2, none⟩ (.int .i64 yc)).setCell ⟨B7, 3, none⟩ (.int .i64 yd)).setCell ⟨B7, 4, none⟩ (.bool xp) = w6 := HW6.out.symm
        rw [← HW6.out] at HB76 HWR6
        obtain ⟨v1, v2, v3, v4, v5, g1, g2, g3, g4, g5⟩ := box5_c HB76.out
        have hrev : Kn.revC (Kn.onPart X p) ⟨(na : Nat), (nb : Nat), xc, xd, xp⟩ = ⟨ya, yb, yc, yd, xp⟩ := by
          unfold Kn.revC
          simp only [Int.toNat_natCast, HEA.out, HEB.out]
          have := HYE.out
          simp [this]
        have HREV := Lib.hid hrev
        have HI4 := Lib.hid (HI.out.nw HWR6.out)
        have HR4 := Lib.hid (HWR6.out.row HR.out fun x => x)
        have hbx : w6.drew.cell? ⟨b, 0, none⟩ = some (.slice (some ⟨g, 0, none⟩) n c1) := by
          have h1 := HI4.out.blk
          rw [HCS.out] at h1
          exact cell_of_row _ _ 0 _ 68 (0, 0) h1
        obtain ⟨y1, y2, y3, y4, y5⟩ : _ ∧ _ ∧ _ ∧ _ ∧ _ := five_of (show w6.drew.heap[B7]? = _ from HB76.out)
        clear hrev
        go_wp2
        clear z1 z2 z3 z4 z5 f1 f2 f3 f4 f5
        (try rw [hw6])
        go_still_tail 8, (by kernel_rfl)
        clear hbx y1 y2 y3 y4 y5
        change wpList _ _ _ _ _ w6.drew
        obtain ⟨w8, HW8⟩ : ∃ w8, Hid (w8 = w6.drew) := ⟨_, Lib.hid rfl⟩
        rw [← HW8.out]
        have HI5 : Hid (MI w w8 (w.heap.size + 1) b (.slice (some ⟨g, 0, none⟩) n c1) L cs base (mapTo (Kn.revC (Kn.onPart X p)) X k)) := Lib.hid (by rw [HW8.out]; exact HI4.out.nw (Fr.refl _ w6).drew)
        have HR5 : Hid (w8.rowIs pb 3 (m + 1) (numFn (partFn X (Kn.strandsL X).flatten))) := Lib.hid (by rw [HW8.out]; exact HR4.out)
        have hown := HI5.out.own
        rw [mapTo_len, ← HN.out] at hown
        have hx5 := own_five hown (by rw [mapTo_len]; exact HN.out) (j := k) (by rw [mapTo_len]; exact hkX)
        rw [mapTo_cr hkX, HXC.out] at hx5
        obtain ⟨x1, x2, x3, x4, x5⟩ := hx5
        have hfz := fun j => own_free hown j
        have HPU := Lib.hid (HI5.out.put (k := k) (x := Kn.revC (Kn.onPart X p) (Kn.cr X k)) (by rw [mapTo_len]; exact HN.out) (by rw [mapTo_len]; exact hkX))
        have HRR := Lib.hid ((fr_set5 w8 g k (Kn.revC (Kn.onPart X p) (Kn.cr X k)).a (Kn.revC (Kn.onPart X p) (Kn.cr X k)).b (Kn.revC (Kn.onPart X p) (Kn.cr X k)).c (Kn.revC (Kn.onPart X p) (Kn.cr X k)).d (Kn.revC (Kn.onPart X p) (Kn.cr X k)).p).row HR5.out (fun hB => own_ne hown HR5.out (by decide) g rfl hB.symm))
        rw [mapTo_succ hkX] at HPU
        rw [HXC.out, HREV.out] at HPU HRR
        clear hown
        go_wp2
        go_roundw
        case rel => exact ⟨k + 1, by omega, by go_num, HPU, HRR⟩
        case measure => simp [intOf]; omega
    · have hkn' : k = n := by omega
      have hki : ¬ (k : Int) < (n : Int) := by omega
      have HG : Hid (MI w wr (w.heap.size + 1) b (.slice a1 n c1) L cs base (Kn.revL (Kn.onPart X p) X)) := Lib.hid (by
        have h1 := HI.out
        have h2 : mapTo (Kn.revC (Kn.onPart X p)) X k = Kn.revL (Kn.onPart X p) X := by rw [hkn', HN.out, mapTo_all]; rfl
        rw [h2] at h1
        exact h1)
      clear HI
      have hbx := HG.out.blk
      rw [HCS.out] at hbx
      have p0 := cell_of_row _ _ 0 _ 68 (0, 0) hbx
      have p1 := cell_of_row _ _ 1 _ 68 (0, 0) hbx
      simp only [shCells] at p0 p1
      have hb1 := (box2_set HG.out.res (.slice a1 n c1)).1
      have hb2 := (box2_set hb1 (.int .i64 L)).2
      obtain ⟨e0, _, z0, _⟩ := box2_c HG.out.res
      obtain ⟨_, e1, _, z1⟩ := box2_c hb1
      obtain ⟨m5, m6, _, _⟩ := box2_c hb2
      clear hb1 hb2 hbx
      go_wp2
      exact bodyPost_ret (v := .tuple #[.agg #[.slice a1 n c1, .int .i64 L], .int .i64 0]) (by simp [results, Try.results21, go_sem, m5, m6]) rfl HG.out.gave
end Go.Proofs.Ytgjmjbgicfkojaa
