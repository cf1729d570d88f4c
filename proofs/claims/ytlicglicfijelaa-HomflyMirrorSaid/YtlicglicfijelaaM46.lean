/- Walks: Sum. -/
import Derived.Test.YtlicglicfijelaaM45
namespace Go.Proofs.Ytlicglicfijelaa
open Go.RowKit

/- two places in new memory -/
def TwoPl (w1 : World) (p q : Kn.Pl) (s t : Value) (wx : World) : Prop := ∃ B1 B2, s = .pointer (some ⟨B1, 0, none⟩) ∧ t = .pointer (some ⟨B2, 0, none⟩) ∧ New w1 wx ∧ wx.heap[B1]? = some (.cells #[.int .i64 (p.1 : Nat), .int .i64 (p.2 : Nat)] 66 (0, 0)) ∧ wx.heap[B2]? = some (.cells #[.int .i64 (q.1 : Nat), .int .i64 (q.2 : Nat)] 66 (0, 0))
theorem two_a (w1 : World) (p q : Kn.Pl) : TwoPl w1 p q (.pointer (some ⟨w1.heap.size, 0, none⟩)) (.pointer (some ⟨w1.heap.size + 1, 0, none⟩)) (((w1.alloc (.cells #[.int .i64 (p.1 : Nat), .int .i64 (p.2 : Nat)] 66)).alloc (.cells #[.int .i64 (q.1 : Nat), .int .i64 (q.2 : Nat)] 66)).drew) := by
  have h1 := heap_alloc_new (w1.alloc (.cells #[.int .i64 (p.1 : Nat), .int .i64 (p.2 : Nat)] 66)) (.cells #[.int .i64 (q.1 : Nat), .int .i64 (q.2 : Nat)] 66)
  rw [World.size_alloc] at h1
  exact ⟨_, _, rfl, rfl, (((Fr.refl _ w1).alloc _).alloc _).trans (Fr.refl _ _).drew, ((Fr.refl (fun _ => False) _).alloc _).blk (heap_alloc_new w1 _) fun x => x, h1⟩
theorem two_b (w1 : World) (p q : Kn.Pl) : TwoPl w1 p q (.pointer (some ⟨w1.heap.size + 1, 0, none⟩)) (.pointer (some ⟨w1.heap.size, 0, none⟩)) (((w1.alloc (.cells #[.int .i64 (q.1 : Nat), .int .i64 (q.2 : Nat)] 66)).alloc (.cells #[.int .i64 (p.1 : Nat), .int .i64 (p.2 : Nat)] 66)).drew) := by
  have h1 := heap_alloc_new (w1.alloc (.cells #[.int .i64 (q.1 : Nat), .int .i64 (q.2 : Nat)] 66)) (.cells #[.int .i64 (p.1 : Nat), .int .i64 (p.2 : Nat)] 66)
  rw [World.size_alloc] at h1
  exact ⟨_, _, rfl, rfl, (((Fr.refl _ w1).alloc _).alloc _).trans (Fr.refl _ _).drew, h1, ((Fr.refl (fun _ => False) _).alloc _).blk (heap_alloc_new w1 _) fun x => x⟩
theorem own_side {w : World} {base g c n : Nat} {Y : List Kn.Cr} (h : w.ownsRow base 58 5 (.slice (some ⟨g, 0, none⟩) n c) n (crCells Y)) (hn : n = Y.length) {p : Kn.Pl} (hp : Kn.isPl Y p) : w.cell? ⟨g, p.1 * 5 + p.2, none⟩ = some (.int .i64 (Kn.at_ Y p)) := by
  obtain ⟨x1, x2, x3, x4, _⟩ := own_five h hn hp.1
  obtain ⟨p1, p2⟩ := p
  match p2, hp.2 with
  | 0, _ => exact x1
  | 1, _ => exact x2
  | 2, _ => exact x3
  | 3, _ => exact x4
set_option maxRecDepth 100000 in
set_option maxHeartbeats 8000000 in
theorem sum_any (a az : Option Addr) (n c nz cz x y : Nat) (X Z : List Kn.Cr) (L Lz : Int) (w : World) (hx : CrsAt w a X) (hz : CrsAt w az Z) (hn : n = X.length) (hnz : nz = Z.length) (hm : Kn.mayB X L = true) (hmz : Kn.mayB Z Lz = true) (h8 : n + nz ≤ 16) (hL : L + Lz ≤ 16) (hx1 : 1 ≤ x) (hx2 : x ≤ 2 * n) (hy1 : 1 ≤ y) (hy2 : y ≤ 2 * nz) :
    Calls Try.prog 9 #[.agg #[.slice a n c, .int .i64 L], .int .i64 (x : Nat), .agg #[.slice az nz cz, .int .i64 Lz], .int .i64 (y : Nat)] w (GaveMir (Kn.sumL X Z x y) (L + Lz) w) := by
  have HN := Lib.hid hn
  have HNZ := Lib.hid hnz
  have HX := Lib.hid hx
  have HZ := Lib.hid hz
  have HM := Lib.hid hm
  have HMZ := Lib.hid hmz
  have HOK := Lib.hid (mayB_ok hm)
  have HOKZ := Lib.hid (mayB_ok hmz)
  obtain ⟨m, HMm⟩ : ∃ m, Hid (m = Kn.nArcs X) := ⟨_, Lib.hid rfl⟩
  obtain ⟨mz, HMmz⟩ : ∃ m, Hid (m = Kn.nArcs Z) := ⟨_, Lib.hid rfl⟩
  have hm2 : m = 2 * n := by have := HMm.out; unfold Kn.nArcs at this; omega
  have hmz2 : mz = 2 * nz := by have := HMmz.out; unfold Kn.nArcs at this; omega
  have hL0 : 0 ≤ L := by unfold Kn.mayB at hm; simp at hm; omega
  have hLz0 : 0 ≤ Lz := by unfold Kn.mayB at hmz; simp at hmz; omega
  clear hx hn hm hz hnz hmz
  go_enter Try.func9, Try.ntmps9
  go_wp2_with fail
  obtain ⟨w1, HW1⟩ : ∃ w1, Hid (w1 = ((w.alloc (.cells #[.slice a n c, .int .i64 L] 24)).alloc (.cells #[.slice az nz cz, .int .i64 Lz] 24)).alloc (.cells #[.slice none 0 0, .int .i64 0] 24)) := ⟨_, Lib.hid rfl⟩
  have HN1 : Hid (New w w1) := Lib.hid (by rw [HW1.out]; exact (((Fr.refl _ w).alloc _).alloc _).alloc _)
  have HRS : Hid (w1.heap[w.heap.size + 2]? = some (.cells #[.slice none 0 0, .int .i64 0] 24 (0, 0))) := Lib.hid (by
    have := heap_alloc_new ((w.alloc (.cells #[.slice a n c, .int .i64 L] 24)).alloc (.cells #[.slice az nz cz, .int .i64 Lz] 24)) (.cells #[.slice none 0 0, .int .i64 0] 24)
    rw [World.size_alloc, World.size_alloc] at this; rw [HW1.out]; exact this)
  have HB6 : Hid (w1.heap[w.heap.size + 1]? = some (.cells #[.slice az nz cz, .int .i64 Lz] 24 (0, 0))) := Lib.hid (by
    have h0 := heap_alloc_new (w.alloc (.cells #[.slice a n c, .int .i64 L] 24)) (.cells #[.slice az nz cz, .int .i64 Lz] 24)
    rw [World.size_alloc] at h0
    rw [HW1.out]; exact ((Fr.refl (fun _ => False) _).alloc _).blk h0 fun x => x)
  have HSZ : Hid (w1.heap.size = w.heap.size + 3) := Lib.hid (by rw [HW1.out]; simp [World.size_alloc])
  rw [← HW1.out]
  refine (new_any a n c X L _ (New.crs HN1.out HX.out) HN.out (by omega) (by omega) (by omega)).mono ?_
  rintro e w2 ⟨hF, h5⟩
  obtain ⟨_, b1, rfl, hsa, _, v1, bi1, bo1, base1, hsh1, hbs1⟩ := h5.resolve_right (fun h => by have h1 := h.1; rw [HM.out] at h1; cases h1)
  obtain ⟨cs, HCS⟩ : ∃ cs, Hid (cs = shCells v1 L bi1 bo1 (mArcs X)) := ⟨_, Lib.hid rfl⟩
  have HF2 := Lib.hid hF
  have HSH1 := Lib.hid hsh1
  have HSA1 := Lib.hid hsa
  have HBS1 := Lib.hid hbs1
  obtain ⟨m0, m1, _, _⟩ := box2_c (hF.blk HB6.out fun x => x)
  clear hF h5 hsh1 hbs1 hsa
  go_wp2_with fail
  clear m0 m1
  refine (new_any az nz cz Z Lz _ (New.crs (HN1.out.trans HF2.out) HZ.out) HNZ.out (by omega) (by omega) (by omega)).mono ?_
  rintro e w3 ⟨hF, h5⟩
  obtain ⟨_, b2, rfl, hsa, _, v2, bi2, bo2, base2, hsh2, hbs2⟩ := h5.resolve_right (fun h => by have h1 := h.1; rw [HMZ.out] at h1; cases h1)
  obtain ⟨ct, HCT⟩ : ∃ cs, Hid (cs = shCells v2 Lz bi2 bo2 (mArcs Z)) := ⟨_, Lib.hid rfl⟩
  have HF3 := Lib.hid hF
  have HSH2 := Lib.hid hsh2
  have HSA2 := Lib.hid hsa
  have HBS2 := Lib.hid hbs2
  have HSA1' := Lib.hid (New.shAt hF HSA1.out)
  have HS1 := Lib.hid (HSH1.out.kept hF (fun x => x) (fun x => x) (fun x => x) (fun _ _ x => x))
  clear hF h5 hsh2 hbs2 hsa
  go_wp2_with fail
  refine (isArc_any b1 m x X L w3 HSA1'.out (by have := HN.out; omega) HMm.out hx1 (by omega)).mono ?_
  rintro e w' ⟨rfl, rfl⟩
  go_wp2_with fail
  refine (isArc_any b2 mz y Z Lz w3 HSA2.out (by have := HNZ.out; omega) HMmz.out hy1 (by omega)).mono ?_
  rintro e w' ⟨rfl, rfl⟩
  have hg1 : decide (16 < (n : Int) + (nz : Int)) = false := by simp; omega
  have hg2 : ¬ 16 < (n : Int) + (nz : Int) := by omega
  have hg3 : decide (16 < L + Lz) = false := by simp; omega
  have hg4 : ¬ 16 < L + Lz := by omega
  have hh1 := HS1.out
  have hh2 := HSH2.out
  obtain ⟨a1, c1, e1, _⟩ := own_shape2 hh1.own
  obtain ⟨a2, c2, e2, _⟩ := own_shape2 hh2.own
  rw [← HN.out] at e1
  rw [← HNZ.out] at e2
  obtain ⟨s0, s1, s2, _⟩ := hh1.c2
  obtain ⟨t0, t1, t2, _⟩ := hh2.c2
  rw [e1] at s0
  rw [e2] at t0
  clear hh1 hh2
  go_wp2_with fail
  go_quiet (fail)
  obtain ⟨w4, HW4⟩ : ∃ w4, Hid (w4 = w3.drewN nq) := ⟨_, Lib.hid rfl⟩
  rw [← HW4.out]
  have HF4 : Hid (New w3 w4) := Lib.hid (by rw [HW4.out]; exact (Fr.refl _ w3).drewN _)
  have HC := Lib.hid (fun j => (arcsN' b1 m X L (w4.drewN j) (New.shAt (HF4.out.trans ((Fr.refl _ w4).drewN j)) HSA1'.out) (by have := HN.out; omega) HMm.out).mono (fun e w' h => (⟨h.1, h.2.symm⟩ : e = .returned (.int .i64 (m : Nat)) ∧ w' = w4.drewN j)))
  have s0' := HF4.out.cell s0 fun x => x
  have s1' := HF4.out.cell s1 fun x => x
  have s2' := HF4.out.cell s2 fun x => x
  have t0' := HF4.out.cell t0 fun x => x
  have t1' := HF4.out.cell t1 fun x => x
  have t2' := HF4.out.cell t2 fun x => x
  clear s0 s1 s2 t0 t1 t2
  go_wp2_with fail
  go_quiet (first | (go_at_call 21; refine Calls.quiet_of_same (HC.out _)))
  obtain ⟨w5, HW5⟩ : ∃ w5, Hid (w5 = w4.drewN nq) := ⟨_, Lib.hid rfl⟩
  rw [← HW5.out]
  have HF5 : Hid (New w3 w5) := Lib.hid (by rw [HW5.out]; exact HF4.out.trans ((Fr.refl _ w4).drewN _))
  have hF45 : New w4 w5 := by rw [HW5.out]; exact (Fr.refl _ w4).drewN _
  have s0 := hF45.cell s0' fun x => x
  have s1 := hF45.cell s1' fun x => x
  have t0 := hF45.cell t0' fun x => x
  have t1 := hF45.cell t1' fun x => x
  clear s0' s1' s2' t0' t1' t2' hF45
  have hFa : New w5 (w5.alloc (.cells #[.slice none 0 0, .int .i64 0] 24)) := (Fr.refl _ w5).alloc _
  have s0a := hFa.cell s0 fun x => x
  have s1a := hFa.cell s1 fun x => x
  have t0a := hFa.cell t0 fun x => x
  have t1a := hFa.cell t1 fun x => x
  clear hFa
  go_wp2_with fail
  go_region
  clear s0a s1a t0a t1a s0 s1 t1
  obtain ⟨g1, cg1, hg1'⟩ : ∃ g cg, Value.slice a1 n c1 = .slice (some ⟨g, 0, none⟩) n cg := by
    have := HS1.out.own
    rw [e1, ← HN.out] at this
    rcases this.2 with ⟨_, h0'⟩ | ⟨g, cap, cur, e, _⟩
    · omega
    · exact ⟨g, cap, e⟩
  cases hg1'
  obtain ⟨g2, cg2, hg2'⟩ : ∃ g cg, Value.slice a2 nz c2 = .slice (some ⟨g, 0, none⟩) nz cg := by
    have := HSH2.out.own
    rw [e2, ← HNZ.out] at this
    rcases this.2 with ⟨_, h0'⟩ | ⟨g, cap, cur, e, _⟩
    · omega
    · exact ⟨g, cap, e⟩
  cases hg2'
  obtain ⟨w6, HW6⟩ : ∃ w6, Hid (w6 = (w5.alloc (.cells #[.slice (some ⟨g1, 0, none⟩) n c1, .int .i64 (L + Lz)] 24)).drew) := ⟨_, Lib.hid rfl⟩
  obtain ⟨D, HD⟩ : ∃ D, Hid (D = w5.heap.size) := ⟨_, Lib.hid rfl⟩
  rw [← HW6.out, ← HD.out]
  have HF6 : Hid (New w3 w6) := Lib.hid (by rw [HW6.out]; exact HF5.out.trans (((Fr.refl _ w5).alloc _).trans (Fr.refl _ _).drew))
  have HI0 : Hid (SmI w w6 b1 b2 bi1 bi2 D cs ct (L + Lz) X Z (Kn.sumTo X Z m 0) (.slice (some ⟨g1, 0, none⟩) (n + 0) c1) (.slice (some ⟨g2, 0, none⟩) nz c2)) := Lib.hid (by
    have hs1 := HS1.out
    have hs2 := HSH2.out
    rw [e1] at hs1
    rw [e2] at hs2
    have z1 := HBS1.out
    have z2 := HBS2.out
    have z3 := HSZ.out
    have z4 := HF2.out.size
    have z5 := HF5.out.size
    have z6 := HF3.out.size
    refine ⟨HN1.out.trans (HF2.out.trans (HF3.out.trans HF6.out)), HF6.out.blk (HF3.out.blk (HF2.out.blk HRS.out fun x => x) fun x => x) fun x => x, ?_, ?_, HF6.out.row hs1.ri fun x => x, HF6.out.row hs2.ri fun x => x, ?_, ?_, ?_, ?_, ?_⟩
    · have := HF6.out.blk hs1.blk fun x => x
      rw [HCS.out, e1]; exact this
    · have := HF6.out.blk hs2.blk fun x => x
      rw [HCT.out, e2]; exact this
    · rw [Kn.sumTo_zero]
      have := HF6.out.owns hs1.own fun _ _ x => x
      exact own_base this (by omega)
    · have := HF6.out.owns hs2.own fun _ _ x => x
      exact own_base this (by omega)
    · intro k hk e
      have h2 := own_lb hs2.own k e
      have h1 : k < w2.heap.size := by
        have h3 := HSH1.out.own
        rw [e1] at h3
        rcases h3.2 with ⟨h4, _⟩ | ⟨g, cap, cur, h4, _, h5, _⟩
        · cases h4
        · cases h4
          obtain rfl : g1 = k := Option.some.inj hk
          exact (Array.getElem?_eq_some_iff.1 h5).1
      omega
    · rw [HW6.out, HD.out]; exact heap_alloc_new _ _
    · have := HD.out; omega)
  clear t0
  have t6 : w6.cell? ⟨b2, 0, none⟩ = some (.slice (some ⟨g2, 0, none⟩) nz c2) := by
    have h1 := HI0.out.bt
    rw [HCT.out, e2] at h1
    exact cell_of_row _ _ 0 _ 47 (0, 0) h1
  go_wp2_with fail
  clear t6
  obtain ⟨i5, hi5, hz50, hz51, hz52⟩ := info_parts Try.info58
  have HM2 := Lib.hid hm2
  have hm16 : m ≤ 32 := by omega
  have HX2 := Lib.hid hx2
  have HY2 := Lib.hid hy2
  have hxm : x ≤ m := by omega
  have hym : y ≤ mz := by omega
  have hmz16 : mz ≤ 32 := by omega
  clear hm2 hx2 hy2 hmz2
  go_loopw [112] (fun i wr => ∃ k g cp : Nat, k ≤ nz ∧ i = .int .i64 k ∧ Hid (SmI w wr b1 b2 bi1 bi2 D cs ct (L + Lz) X Z (Kn.sumTo X Z m k) (.slice (some ⟨g, 0, none⟩) (n + k) cp) (.slice (some ⟨g2, 0, none⟩) nz c2))) (fun i _ => nz - (intOf i).toNat)
  case atStart => exact ⟨0, g1, c1, by omega, rfl, HI0⟩
  case round =>
    obtain ⟨k, g, cp, hk, rfl, HI⟩ := hrel
    by_cases hkn : k < nz
    · have hkX : k < Z.length := by have := HNZ.out; omega
      have hown := HI.out.ot
      rw [← HNZ.out] at hown
      have hx5 := own_five hown HNZ.out hkX
      obtain ⟨f1, f2, f3, f4, f5⟩ := arc_nat HOKZ.out.1 hkX
      have b1' := f5 0 (by omega)
      have b2' := f5 1 (by omega)
      have b3' := f5 2 (by omega)
      have b4' := f5 3 (by omega)
      have HYC : Hid (Kn.cr Z k = ⟨(Kn.arcN Z (k, 0) : Nat), (Kn.arcN Z (k, 1) : Nat), (Kn.arcN Z (k, 2) : Nat), (Kn.arcN Z (k, 3) : Nat), (Kn.cr Z k).p⟩) := Lib.hid (by rw [← f1, ← f2, ← f3, ← f4])
      rw [HYC.out] at hx5
      obtain ⟨na, HNA⟩ : ∃ q, Hid (q = Kn.arcN Z (k, 0)) := ⟨_, Lib.hid rfl⟩
      obtain ⟨nb, HNB⟩ : ∃ q, Hid (q = Kn.arcN Z (k, 1)) := ⟨_, Lib.hid rfl⟩
      obtain ⟨nc, HNC⟩ : ∃ q, Hid (q = Kn.arcN Z (k, 2)) := ⟨_, Lib.hid rfl⟩
      obtain ⟨nd, HND⟩ : ∃ q, Hid (q = Kn.arcN Z (k, 3)) := ⟨_, Lib.hid rfl⟩
      obtain ⟨xp, HXP⟩ : ∃ q, Hid (q = (Kn.cr Z k).p) := ⟨_, Lib.hid rfl⟩
      rw [← HNA.out, ← HNB.out, ← HNC.out, ← HND.out, ← HXP.out] at hx5 HYC
      rw [← HNA.out] at b1'
      rw [← HNB.out] at b2'
      rw [← HNC.out] at b3'
      rw [← HND.out] at b4'
      obtain ⟨x1, x2, x3, x4, x5⟩ := hx5
      have i1 : (0 : Int) ≤ (k : Int) := by omega
      have i2 : (k : Int) < (nz : Int) := by omega
      have hn16 : Z.length ≤ 16 := by have := HNZ.out; omega
      clear f1 f2 f3 f4 f5 hown
      have HIa := Lib.hid (HI.out.nw ((Fr.refl _ wr).alloc (.cells #[.int .i64 ((na : Int) + (m : Int)), .int .i64 ((nb : Int) + (m : Int)), .int .i64 ((nc : Int) + (m : Int)), .int .i64 ((nd : Int) + (m : Int)), .bool xp] 58)))
      obtain ⟨d0, _, _, _⟩ := box2_c HIa.out.box
      have HOV := Lib.hid (show (wr.alloc (.cells #[.int .i64 ((na : Int) + (m : Int)), .int .i64 ((nb : Int) + (m : Int)), .int .i64 ((nc : Int) + (m : Int)), .int .i64 ((nd : Int) + (m : Int)), .bool xp] 58)).ownsRow w.heap.size 58 5 (.slice (some ⟨g, 0, none⟩) (n + k) cp) (n + k) (crCells (Kn.sumTo X Z m k)) by
        have := HIa.out.own
        rw [Kn.sumTo_len (by have := HNZ.out; omega), ← HN.out] at this
        exact this)
      have hbs : w.heap.size ≤ wr.heap.size := HI.out.new.size
      have hnk : n + k = (Kn.sumTo X Z m k).length := by rw [Kn.sumTo_len (by have := HNZ.out; omega), ← HN.out]
      have HNK := Lib.hid hnk
      clear hnk
      go_wp2_with (at_builtin; refine wpList_append_lies _ rfl _ _ 22 rfl w.heap.size 58 i5 (.agg #[.int .i64 0, .int .i64 0, .int .i64 0, .int .i64 0, .bool false]) 5 40 Try.underlying22 hi5 hz50 hz51 hz52 rfl (by decide) _ (n + k) (crCells (Kn.sumTo X Z m k)) rfl (World.ownsRow.alloc HOV.out _) ⟨_, 0, none⟩ 1 1 [.int .i64 ((na : Int) + (m : Int)), .int .i64 ((nb : Int) + (m : Int)), .int .i64 ((nc : Int) + (m : Int)), .int .i64 ((nd : Int) + (m : Int)), .bool xp] rfl rfl (five_cells (World.size_alloc _ _).symm) (one_five _ _ _ _ _) (by decide) (by unfold maxLen; omega) (by omega) (by simp only [World.size_alloc]; omega) _ rfl ?_; intro g' cap' w7 hown hgrow hloc _; obtain ⟨hb7, hI7⟩ := HIa.out.app (x := ⟨(na : Int) + (m : Int), (nb : Int) + (m : Int), (nc : Int) + (m : Int), (nd : Int) + (m : Int), xp⟩) HNK.out hown hgrow hloc; obtain ⟨y0, _, y2, _⟩ := box2_c hb7; have HI7 := Lib.hid hI7; clear hown hgrow hloc hb7 hI7)
      go_roundw
      case rel =>
        refine ⟨k + 1, g', cap', by omega, by go_num, Lib.hid ?_⟩
        have h7 := HI7.out
        have e7 : Kn.sumTo X Z m (k + 1) = Kn.sumTo X Z m k ++ [⟨(na : Int) + (m : Int), (nb : Int) + (m : Int), (nc : Int) + (m : Int), (nd : Int) + (m : Int), xp⟩] := by
          rw [Kn.sumTo_succ hkX, HYC.out]; rfl
        rw [e7]
        exact h7
      case measure => simp [intOf]; omega
    · have hkn' : k = nz := by omega
      have hki : ¬ (k : Int) < (nz : Int) := by omega
      obtain ⟨p1, ps1, HP⟩ : ∃ p q, Hid (Kn.inP X x = (p, q)) := ⟨_, _, Lib.hid rfl⟩
      obtain ⟨q1, qs1, HQ⟩ : ∃ p q, Hid (Kn.inP Z y = (p, q)) := ⟨_, _, Lib.hid rfl⟩
      have hax : Kn.isArc X x := ⟨hx1, by rw [← HMm.out]; omega⟩
      have hay : Kn.isArc Z y := ⟨hy1, by rw [← HMmz.out]; omega⟩
      have hp := HOK.out.1.isPl_end (io := true) hax
      have hq := HOKZ.out.1.isPl_end (io := true) hay
      rw [show Kn.endP X true x = (p1, ps1) from HP.out] at hp
      rw [show Kn.endP Z true y = (q1, qs1) from HQ.out] at hq
      have HPP := Lib.hid hp
      have HQQ := Lib.hid hq
      have hp1 : p1 < n := by have := hp.1; have := HN.out; omega
      have hq1 : q1 < nz := by have := hq.1; have := HNZ.out; omega
      have hps := hp.2
      have hqs := hq.2
      simp only at hps hqs
      have HG : Hid (SmI w wr b1 b2 bi1 bi2 D cs ct (L + Lz) X Z (Kn.sumTo X Z m nz) (.slice (some ⟨g, 0, none⟩) (n + nz) cp) (.slice (some ⟨g2, 0, none⟩) nz c2)) := Lib.hid (by have h1 := HI.out; rw [hkn'] at h1; exact h1)
      clear HI hax hay hp hq
      have hbx := HG.out.bs
      rw [HCS.out] at hbx
      have hby := HG.out.bt
      rw [HCT.out] at hby
      have u1 := cell_of_row _ _ 2 _ 47 (0, 0) hbx
      have u2 := cell_of_row _ _ 2 _ 47 (0, 0) hby
      simp only [shCells] at u1 u2
      have HMA : Hid (mArcs X = m + 1) := Lib.hid (by have := HMm.out; unfold Kn.nArcs at this; unfold mArcs; omega)
      have HMAZ : Hid (mArcs Z = mz + 1) := Lib.hid (by have := HMmz.out; unfold Kn.nArcs at this; unfold mArcs; omega)
      have hri := HG.out.ri
      have hrj := HG.out.rj
      rw [HMA.out] at u1 hri
      rw [HMAZ.out] at u2 hrj
      have v1' := hri.cell (i := x * 2) (by omega)
      have v2' := hri.cell (i := x * 2 + 1) (by omega)
      have v3' := hrj.cell (i := y * 2) (by omega)
      have v4' := hrj.cell (i := y * 2 + 1) (by omega)
      rw [plFn_0, HP.out] at v1'
      rw [plFn_1, HP.out] at v2'
      rw [plFn_0, HQ.out] at v3'
      rw [plFn_1, HQ.out] at v4'
      simp only at v1' v2' v3' v4'
      have i1 : (0 : Int) ≤ (x : Int) := by omega
      have i2 : (x : Int) < (m : Int) + 1 := by omega
      have i3 : (0 : Int) ≤ (y : Int) := by omega
      have i4 : (y : Int) < (mz : Int) + 1 := by omega
      have k1 : b1 < wr.heap.size := (Array.getElem?_eq_some_iff.1 hbx).1
      have k2 : b2 < wr.heap.size := (Array.getElem?_eq_some_iff.1 hby).1
      have k3 : bi1 < wr.heap.size := by obtain ⟨_, h1, _⟩ := hri; exact (Array.getElem?_eq_some_iff.1 h1).1
      have k4 : bi2 < wr.heap.size := by obtain ⟨_, h1, _⟩ := hrj; exact (Array.getElem?_eq_some_iff.1 h1).1
      have k5 : b1 < wr.heap.size + 1 := by omega
      have k6 : b2 < wr.heap.size + 1 := by omega
      have k7 : bi1 < wr.heap.size + 1 := by omega
      have k8 : bi2 < wr.heap.size + 1 := by omega
      clear hbx hby hri hrj
      go_wp2_with fail
      go_cut [19, 20] (fun s19 s20 wx => Hid (TwoPl wr (p1, ps1) (q1, qs1) s19 s20 wx))
      case first =>
        --BEGIN
        go_region
        all_goals (go_wp2_with fail)
        all_goals go_meet
        all_goals (first | exact Lib.hid (two_a wr (p1, ps1) (q1, qs1)) | exact Lib.hid (two_b wr (p1, ps1) (q1, qs1)))
        --END
      case rest =>
      obtain ⟨B1, B2, rfl, rfl, hN8, hb1, hb2⟩ := Hid.out hcut
      obtain ⟨w8, rfl⟩ : ∃ w3, w3 = wc := ⟨_, rfl⟩
      have HB2 := Lib.hid hb2
      have HI8 := Lib.hid (HG.out.nw hN8)
      have HYL : Hid (n + nz = (Kn.sumTo X Z m nz).length) := Lib.hid (by rw [Kn.sumTo_len (by have := HNZ.out; omega), ← HN.out])
      have HP0 : Hid (Kn.isPl (Kn.sumTo X Z m nz) (p1, ps1)) := Lib.hid ⟨by have := HYL.out; simp only; omega, hps⟩
      have HQ0 : Hid (Kn.isPl (Kn.putA (Kn.sumTo X Z m nz) (p1, ps1) ((y : Int) + (m : Int))) (n + q1, qs1)) := Lib.hid ⟨by rw [Kn.putA_len]; have := HYL.out; simp only; omega, hqs⟩
      clear hcut hb2 u1 u2 v1' v2' v3' v4' k1 k2 k3 k4 k5 k6 k7 k8 i1 i2 i3 i4
      have m1 := cell_of_row _ _ 0 _ 66 (0, 0) hb1
      have m2 := cell_of_row _ _ 1 _ 66 (0, 0) hb1
      simp only at m1 m2
      obtain ⟨d0, _, _, _⟩ := box2_c HI8.out.box
      have i1 : (0 : Int) ≤ (p1 : Int) := by omega
      have i2 : (p1 : Int) < (n : Int) + (nz : Int) := by omega
      clear hN8 hb1
      go_wp2_with fail
      go_still_tail 10, (by kernel_rfl)
      change wpList _ _ _ _ _ w8.drew
      clear d0 m1 m2 i1 i2
      have HI9 := Lib.hid (HI8.out.nw (Fr.refl _ w8).drew)
      have HB9 : Hid (w8.drew.heap[B2]? = _) := Lib.hid HB2.out
      have HOV9 : Hid (w8.drew.ownsRow w.heap.size 58 5 (.slice (some ⟨g, 0, none⟩) (n + nz) cp) (n + nz) (crCells (Kn.sumTo X Z m nz))) := Lib.hid (by have := HI9.out.own; rw [← HYL.out] at this; exact this)
      go_wp2_with fail
      refine (set_any g (p1 * 5) ps1 ((y : Int) + (m : Int)) _ w8.drew hps (own_side HOV9.out HYL.out HP0.out) (own_free HOV9.out _)).mono ?_
      rintro e w10 ⟨rfl, hF⟩
      have HI10 := Lib.hid ((HI9.out.put HYL.out HP0.out ((y : Int) + (m : Int))).nw hF)
      have HB10 : Hid (w10.heap[B2]? = some (.cells #[.int .i64 (q1 : Nat), .int .i64 (qs1 : Nat)] 66 (0, 0))) := Lib.hid (hF.blk (((Fr.refl (fun k => k = g) w8.drew).setCell (a := ⟨g, p1 * 5 + ps1, none⟩) (.inl rfl) _).blk HB9.out (fun e => blk_not_own HB9.out HOV9.out (by decide) (by rw [e]; rfl))) fun x => x)
      have hq1' : n + q1 < n + nz := by omega
      clear hF
      obtain ⟨r, HR⟩ : ∃ r, Hid (r = n + q1) := ⟨_, Lib.hid rfl⟩
      have hr : (n : Int) + (q1 : Int) = (r : Int) := by rw [HR.out]; omega
      have hw : IntKind.i64.wrap ((n : Int) + (q1 : Int)) = (r : Int) := by rw [IntWalk.i64_in _ (by omega), hr]
      have i1 : (0 : Int) ≤ (r : Int) := by omega
      have i2 : (r : Int) < (n : Int) + (nz : Int) := by omega
      clear hr
      have m1 := cell_of_row _ _ 0 _ 66 (0, 0) HB10.out
      have m2 := cell_of_row _ _ 1 _ 66 (0, 0) HB10.out
      obtain ⟨d0, _, _, _⟩ := box2_c HI10.out.box
      go_wp2_with fail
      go_still_tail 10, (by kernel_rfl)
      change wpList _ _ _ _ _ w10.drew
      clear d0 m1 m2 i1 i2 hw
      have HI11 := Lib.hid (HI10.out.nw (Fr.refl _ w10).drew)
      have HYL2 : Hid (n + nz = (Kn.putA (Kn.sumTo X Z m nz) (p1, ps1) ((y : Int) + (m : Int))).length) := Lib.hid (by rw [Kn.putA_len]; exact HYL.out)
      have HOV11 : Hid (w10.drew.ownsRow w.heap.size 58 5 (.slice (some ⟨g, 0, none⟩) (n + nz) cp) (n + nz) (crCells (Kn.putA (Kn.sumTo X Z m nz) (p1, ps1) ((y : Int) + (m : Int))))) := Lib.hid (by have := HI11.out.own; rw [← HYL2.out] at this; exact this)
      rw [← HR.out] at HQ0
      go_wp2_with fail
      refine (set_any g (r * 5) qs1 (x : Int) _ w10.drew hqs (own_side HOV11.out HYL2.out HQ0.out) (own_free HOV11.out _)).mono ?_
      rintro e w12 ⟨rfl, hF⟩
      have HI12 := Lib.hid ((HI11.out.put HYL2.out HQ0.out (x : Int)).nw hF)
      have HEQ : Hid (Kn.putA (Kn.putA (Kn.sumTo X Z m nz) (p1, ps1) ((y : Int) + (m : Int))) (r, qs1) (x : Int) = Kn.sumL X Z x y) := Lib.hid (by
        unfold Kn.sumL
        rw [show Kn.endP X true x = (p1, ps1) from HP.out, show Kn.endP Z true y = (q1, qs1) from HQ.out, ← HMm.out, ← HN.out, ← HNZ.out, HR.out]
        rfl)
      rw [HEQ.out] at HI12
      clear hF
      obtain ⟨d0, d1, _, _⟩ := box2_c HI12.out.box
      obtain ⟨j0, _, z0, _⟩ := box2_c HI12.out.res
      have hb1 := (box2_set HI12.out.res (.slice (some ⟨g, 0, none⟩) (n + nz) cp)).1
      have hb2 := (box2_set hb1 (.int .i64 (L + Lz))).2
      obtain ⟨_, j1, _, z1⟩ := box2_c hb1
      obtain ⟨m5, m6, _, _⟩ := box2_c hb2
      clear hb1 hb2
      go_wp2
      exact bodyPost_ret (v := .tuple #[.agg #[.slice (some ⟨g, 0, none⟩) (n + nz) cp, .int .i64 (L + Lz)], .int .i64 0]) (by simp [results, Try.results9, go_sem, m5, m6]) rfl HI12.out.gave
end Go.Proofs.Ytlicglicfijelaa
