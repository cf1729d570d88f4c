/- Walks: Burau's table of a word. -/
import Derived.Test.YtdelekkbkpldjaaDoorQ13w
import Derived.Test.YtdelekkbkpldjaaDoorQ11a
namespace Go.Proofs.YtdelekkbkpldjaaDoor
open Go.RowKit Go.Maps

set_option maxRecDepth 100000 in
set_option maxHeartbeats 1000000 in
theorem burau_any (a : Option Addr) (len c n : Nat) (i : Int) (xs : List Int) (w : World) (hi : i = n) (hl : len = xs.length) (h2 : 2 ≤ n) (h4 : n ≤ 4) (hx : IntsAt w a xs) (hw : Kn.LetsM n xs) (lx : xs.length ≤ 7) :
    Calls Tryd.prog 13 #[.int .i64 i, .slice a len c] w fun e w' => ∃ v m, e = .returned (.tuple #[v, .int .i64 0]) ∧ TabT w' v m ∧ New w w' ∧ TabIsB n (Kn.burB xs xs.length) m := by
  subst hi
  have HX := Lib.hid hx
  have HW := Lib.hid hw
  have HL := Lib.hid hl
  have HLX := Lib.hid lx
  have hl7 : len ≤ 7 := by omega
  have hmk1 := make71 n (by omega)
  have hmk2 := make73 n (by omega)
  have hmm := @run_makeMap Tryd.prog
  obtain ⟨O1, HO1⟩ : ∃ X, Hid (X = Obj.cells (madeCells #[.slice none 0 0] n) 73) := ⟨_, Lib.hid rfl⟩
  obtain ⟨O2, HO2⟩ : ∃ X, Hid (X = Obj.cells (madeCells #[.map none] n) 64) := ⟨_, Lib.hid rfl⟩
  rw [← HO1.out] at hmk1
  rw [← HO2.out] at hmk2
  clear hx hw hl lx
  go_enter Tryd.func13, Tryd.ntmps13
  go_wp2_with fail
  have hwds : WordsAt (w.alloc (.cells #[.slice a len c] 22)) w.heap.size [xs] (fun _ => a) (fun _ => c) := by
    have hg : (w.alloc (.cells #[.slice a len c] 22)).heap[w.heap.size]? = some (.cells #[.slice a len c] 22 (0, 0)) := heap_alloc_new w _
    refine ⟨fun i hi => ?_, fun i hi => ?_⟩
    · obtain rfl : i = 0 := by simp at hi; omega
      rw [HL.out] at hg ⊢
      exact (cell_of_row _ _ 0 _ 22 (0, 0) hg).trans rfl
    · obtain rfl : i = 0 := by simp at hi; omega
      exact New.ints ((Fr.refl _ _).alloc _) HX.out
  refine (check_any w.heap.size 1 1 n _ [xs] (fun _ => a) (fun _ => c) _ rfl rfl (by simp) h2 (by omega) hwds (fun x hx => by rw [List.mem_singleton.1 hx]; exact ⟨HW.out, by have := HLX.out; omega⟩)).mono ?_
  rintro e w1 ⟨rfl, hn1⟩
  have HN1 : Hid (New w w1) := Lib.hid (((Fr.refl _ w).alloc _).trans hn1)
  clear hn1 hwds
  go_wp2_with fail
  obtain ⟨G, HG⟩ : ∃ G, Hid (G = w1.heap.size) := ⟨_, Lib.hid rfl⟩
  obtain ⟨w2, HW2⟩ : ∃ w2, Hid (w2 = w1.alloc O1) := ⟨_, Lib.hid rfl⟩
  have HB0 : Hid (BtW w w2 G n 0 (fun _ => 0) Kn.unitB) := Lib.hid (by
    refine ⟨?_, fun i hi => absurd hi (by omega), fun i j hi => absurd hi (by omega), ⟨by rw [HG.out]; exact HN1.out.size, fun i hi => absurd hi (by omega)⟩, fun i hi => absurd hi (by omega), by rw [HW2.out]; exact HN1.out.alloc _⟩
    have h1 := World.rowIs_made w1 (.slice none 0 0) n 73
    rw [← HO1.out, ← HW2.out, ← HG.out] at h1
    exact h1.congr fun i hi => by rw [if_neg (by omega)])
  rw [← HW2.out, ← HG.out]
  clear HW2 HG hmk1
  go_loopw [35] (fun i wr => ∃ (k : Nat) (R : Nat → Nat), k ≤ n ∧ i = .int .i64 k ∧ Hid (BtW w wr G n k R Kn.unitB)) (fun i _ => n - (intOf i).toNat)
  case atStart => exact ⟨0, _, by omega, rfl, HB0⟩
  case round =>
    obtain ⟨k, R, hk, rfl, HB⟩ := hrel
    obtain ⟨wo, rfl⟩ : ∃ wo : World, wo = wr := ⟨_, rfl⟩
    by_cases hkn : k < n
    · obtain ⟨Rb, HRb⟩ : ∃ B, Hid (B = wo.heap.size) := ⟨_, Lib.hid rfl⟩
      obtain ⟨wa, HWA⟩ : ∃ v, Hid (v = wo.alloc O2) := ⟨_, Lib.hid rfl⟩
      have i1 : (0 : Int) ≤ (k : Int) := by omega
      have i2 : (k : Int) < (n : Int) := by omega
      have f0 : wa.frozen? ⟨G, k, none⟩ = false := by rw [HWA.out]; exact (HB.out.row.alloc _).frozen k
      have c0 : ∃ v, wa.cell? ⟨G, k, none⟩ = some v := ⟨_, by rw [HWA.out]; exact (HB.out.row.alloc _).cell hkn⟩
      obtain ⟨v0, c0⟩ := c0
      go_wp2_with (first | (rw [← HWA.out, ← HRb.out]) | go_in)
      obtain ⟨w3, HW3⟩ : ∃ v, Hid (v = wa.setCell ⟨G, k, none⟩ (.slice (some ⟨Rb, 0, none⟩) n n)) := ⟨_, Lib.hid rfl⟩
      rw [← HW3.out]
      have hGR : G ≠ Rb := by have := HB.out.row.lt; rw [HRb.out]; omega
      have HR3 : Hid (w3.rowIs Rb 64 n fun _ => .map none) := Lib.hid (by
        rw [HW3.out]
        refine World.rowIs.setOther ?_ (a := ⟨G, k, none⟩) (fun e => hGR e.symm) _
        rw [HWA.out, HRb.out, HO2.out]
        exact World.rowIs_made _ _ _ _)
      have HG3 : Hid (w3.cell? ⟨G, k, none⟩ = some (.slice (some ⟨Rb, 0, none⟩) n n)) := Lib.hid (by
        have h := ((HB.out.row.alloc O2).set k (.slice (some ⟨Rb, 0, none⟩) n n)).cell hkn
        rw [← HWA.out, ← HW3.out, if_pos rfl] at h
        exact h)
      have HW3' : Hid (w3 = (wo.alloc O2).setCell ⟨G, k, none⟩ (.slice (some ⟨Rb, 0, none⟩) n n)) := Lib.hid (by rw [HW3.out, HWA.out])
      clear f0 c0 HW3
      go_loopw [48] (fun i wi => ∃ (j : Nat) (f : Nat → Value), j ≤ n ∧ i = .int .i64 j ∧ Hid (wi.rowIs Rb 64 n f) ∧ Hid (∀ q, q < j → Wk wi (f q) [] 15) ∧ Hid (Fr (fun k => k = Rb) w3 wi)) (fun i _ => n - (intOf i).toNat)
      case atStart => exact ⟨0, _, by omega, rfl, HR3, Lib.hid fun q hq => absurd hq (by omega), Lib.hid (Fr.refl _ _)⟩
      case round =>
        obtain ⟨j, f, hj, rfl, HRi, HWi, HFi⟩ := hrel
        by_cases hjn : j < n
        · have c8 := HFi.out.cell HG3.out hGR
          have i3 : (0 : Int) ≤ (j : Int) := by omega
          have i4 : (j : Int) < (n : Int) := by omega
          have q1 := (HRi.out.alloc (.map #[] 0)).cell (i := j) hjn
          have q2 := (HRi.out.alloc (.map #[] 0)).frozen j
          go_wp2
          go_roundw
          case rel =>
            refine ⟨j + 1, _, by omega, by go_num, Lib.hid ((HRi.out.alloc _).set j _), Lib.hid fun q hq => ?_, Lib.hid ((HFi.out.alloc _).setCell (a := ⟨Rb, j, none⟩) (.inl rfl) _)⟩
            by_cases c : q = j
            · rw [if_pos c]
              have h3 : Wk (wr.alloc (.map #[] 0)) (.map (some wr.heap.size)) [] (2 * 7 + 1) := Wk.tight (n := 0) ⟨_, .map [], rfl, World.ownsMap_made _ _ _ _, RD.empty⟩ fun t ht => absurd ht (by simp)
              exact Wk.set h3 (HRi.out.alloc _) _ _
            · rw [if_neg c]
              exact Wk.set (New.wk ((Fr.refl _ _).alloc _) (HWi.out q (by omega))) (HRi.out.alloc _) _ _
          case measure => simp [intOf]; omega
        · obtain rfl : j = n := by omega
          have c8 := HFi.out.cell HG3.out hGR
          obtain ⟨b9, HB9⟩ : ∃ b, Hid (b = wr.heap.size) := ⟨_, Lib.hid rfl⟩
          obtain ⟨wm, HWM⟩ : ∃ v, Hid (v = wr.alloc (.map #[] 0)) := ⟨_, Lib.hid rfl⟩
          have HO : Hid (OM wm b9 0 (.map [])) := Lib.hid (by rw [HWM.out, HB9.out]; exact World.ownsMap_made _ _ _ _)
          have HNm : Hid (New wr wm) := Lib.hid (by rw [HWM.out]; exact (Fr.refl _ _).alloc _)
          have c9 := HNm.out.cell c8 fun x => x
          go_wp2_with (first
            | (rw [← HWM.out, ← HB9.out]; refine wpList_insert_own _ rfl _ _ _ 64 rfl 3 3 law3 ul45 _ _ 0 _ rfl HO.out (by unfold maxLen; omega) _ _ _ rfl rfl (Maps.keyOf_int_mk Tryd.underlying3 (wf64 (by omega))) _ [] (plainElem_int Tryd.underlying3 (wf64 (by omega))) ?_; intro w5 hown2 hg2; have HO3 := Lib.hid hown2; have HN2 : Hid (New wr w5) := (Lib.hid (HNm.out.grown hg2 fun k ek => .inr (by cases ek; exact Nat.le_of_eq HB9.out.symm))); have HR2 : Hid (w5.rowIs Rb 64 j f) := (Lib.hid (HN2.out.row HRi.out fun x => x)); have f0 := HR2.out.frozen k; have c0 := HR2.out.cell (i := k) (by omega); clear hown2 hg2)
            | go_in)
          have hW9 : Wk w5 (.map (some b9)) [(0, 1)] (2 * 7 + 1) := Wk.tight (n := 0 + 1) ⟨_, _, rfl, HO3.out, RD.put (c := 1) RD.empty rfl⟩ fun t ht => by
            rw [List.mem_singleton] at ht
            subst ht
            show -((7 : Nat) : Int) ≤ 0 ∧ (0 : Int) ≤ ((7 : Nat) : Int)
            omega
          have hRW : RWc (w5.setCell ⟨Rb, k, none⟩ (.map (some b9))) Rb j (Kn.unitB k) := by
            have h1 : RWc w5 Rb j fun _ => [] := ⟨f, HR2.out, fun q hq => New.wk HN2.out (HWi.out q hq)⟩
            refine (h1.put (i := k) hW9).congr fun q hq => ?_
            unfold Kn.unitB
            by_cases c : q = k
            · rw [if_pos c, if_pos c.symm]
            · rw [if_neg c, if_neg fun e => c e.symm]
          exact ⟨⟨k + 1, _, by omega, by go_num, Lib.hid (HB.out.more hkn HRb.out HW3'.out (by rw [HO2.out]; exact ⟨_, _, rfl⟩) ((HFi.out.trans (HN2.out.mono fun _ h => h.elim)).setCell (a := ⟨Rb, k, none⟩) (.inl rfl) _) hRW)⟩, by simp [intOf]; omega⟩
    · obtain rfl : n = k := by omega
      have HBT : Hid (BtW w wo G n n R (Kn.burB xs 0)) := HB
      clear HB HB0
      go_wp2_with fail
      go_loopw [70] (fun i wr => ∃ (k : Nat), k ≤ len ∧ i = .int .i64 k ∧ Hid (BtW w wr G n n R (Kn.burB xs k))) (fun i _ => len - (intOf i).toNat)
      case atStart => exact ⟨0, by omega, rfl, HBT⟩
      case round =>
        obtain ⟨k, hk, rfl, HB⟩ := hrel
        obtain ⟨wl, rfl⟩ : ∃ wl : World, wl = wr := ⟨_, rfl⟩
        by_cases hkn : k < len
        · obtain ⟨b, o, rfl, d1⟩ := (New.ints HB.out.new HX.out).at (k := k) (by have := HL.out; omega)
          have hlq := let_bd (lets_at HW.out (k := k) (by have := HL.out; omega))
          obtain ⟨q, HQ⟩ : ∃ q, Hid (q = xs.getD k 0) := ⟨_, Lib.hid rfl⟩
          rw [← HQ.out] at d1 hlq
          -- MARKA
          obtain ⟨h0, h1, h3⟩ := hlq
          obtain ⟨p, hp, hpn⟩ : ∃ p : Nat, max q (-q) - 1 = (p : Int) ∧ p + 1 < n := ⟨q.natAbs - 1, by omega, by omega⟩
          have i1 : (0 : Int) ≤ (k : Int) := by omega
          have i2 : (k : Int) < (len : Int) := by omega
          obtain ⟨bm1, Hbm1⟩ : ∃ b, Hid (b = wl.heap.size) := ⟨_, Lib.hid rfl⟩
          obtain ⟨m1, Hm1⟩ : ∃ v, Hid (v = wl.alloc (.map #[] 0)) := ⟨_, Lib.hid rfl⟩
          have HOm1 : Hid (OM m1 bm1 0 (.map [])) := (Lib.hid (by rw [Hm1.out, Hbm1.out]; exact World.ownsMap_made _ _ _ _))
          have HNm1 : Hid (New wl m1) := (Lib.hid (by rw [Hm1.out]; exact (Fr.refl _ _).alloc _))
          go_upto_if 90 with (first
            | (rw [← Hm1.out, ← Hbm1.out]; refine wpList_insert_own _ rfl _ _ _ 64 rfl 3 3 law3 ul45 _ _ 0 _ rfl HOm1.out (by unfold maxLen; omega) _ _ _ rfl rfl (Maps.keyOf_int_mk Tryd.underlying3 (wf64 (by omega))) _ [] (plainElem_int Tryd.underlying3 (wf64 (by omega))) ?_; intro m1x0 hown2 hg2; have HOm1x0 := Lib.hid hown2; have HNm1x0 : Hid (New wl m1x0) := (Lib.hid (HNm1.out.grown hg2 fun k ek => .inr (by cases ek; exact Nat.le_of_eq Hbm1.out.symm))); clear hown2 hg2)
            | (refine wpList_insert_own _ rfl _ _ _ 64 rfl 3 3 law3 ul45 _ _ 1 _ rfl HOm1x0.out (by unfold maxLen; omega) _ _ _ rfl rfl (Maps.keyOf_int_mk Tryd.underlying3 (wf64 (by omega))) _ [] (plainElem_int Tryd.underlying3 (wf64 (by omega))) ?_; intro m1x1 hown2 hg2; have HOm1x1 := Lib.hid hown2; have HNm1x1 : Hid (New wl m1x1) := (Lib.hid (HNm1x0.out.grown hg2 fun k ek => .inr (by cases ek; exact Nat.le_of_eq Hbm1.out.symm))); clear hown2 hg2; obtain ⟨bm2, Hbm2⟩ : ∃ b, Hid (b = m1x1.heap.size) := ⟨_, Lib.hid rfl⟩; obtain ⟨m2, Hm2⟩ : ∃ v, Hid (v = m1x1.alloc (.map #[] 0)) := ⟨_, Lib.hid rfl⟩; have HOm2 : Hid (OM m2 bm2 0 (.map [])) := (Lib.hid (by rw [Hm2.out, Hbm2.out]; exact World.ownsMap_made _ _ _ _)); have HNm2 : Hid (New m1x1 m2) := (Lib.hid (by rw [Hm2.out]; exact (Fr.refl _ _).alloc _)))
            | (rw [← Hm2.out, ← Hbm2.out]; refine wpList_insert_own _ rfl _ _ _ 64 rfl 3 3 law3 ul45 _ _ 0 _ rfl HOm2.out (by unfold maxLen; omega) _ _ _ rfl rfl (Maps.keyOf_int_mk Tryd.underlying3 (wf64 (by omega))) _ [] (plainElem_int Tryd.underlying3 (wf64 (by omega))) ?_; intro m2x0 hown2 hg2; have HOm2x0 := Lib.hid hown2; have HNm2x0 : Hid (New m1x1 m2x0) := (Lib.hid (HNm2.out.grown hg2 fun k ek => .inr (by cases ek; exact Nat.le_of_eq Hbm2.out.symm))); clear hown2 hg2; obtain ⟨bm3, Hbm3⟩ : ∃ b, Hid (b = m2x0.heap.size) := ⟨_, Lib.hid rfl⟩; obtain ⟨m3, Hm3⟩ : ∃ v, Hid (v = m2x0.alloc (.map #[] 0)) := ⟨_, Lib.hid rfl⟩; have HOm3 : Hid (OM m3 bm3 0 (.map [])) := (Lib.hid (by rw [Hm3.out, Hbm3.out]; exact World.ownsMap_made _ _ _ _)); have HNm3 : Hid (New m2x0 m3) := (Lib.hid (by rw [Hm3.out]; exact (Fr.refl _ _).alloc _)))
            | (rw [← Hm3.out, ← Hbm3.out]; refine wpList_insert_own _ rfl _ _ _ 64 rfl 3 3 law3 ul45 _ _ 0 _ rfl HOm3.out (by unfold maxLen; omega) _ _ _ rfl rfl (Maps.keyOf_int_mk Tryd.underlying3 (wf64 (by omega))) _ [] (plainElem_int Tryd.underlying3 (wf64 (by omega))) ?_; intro m3x0 hown2 hg2; have HOm3x0 := Lib.hid hown2; have HNm3x0 : Hid (New m2x0 m3x0) := (Lib.hid (HNm3.out.grown hg2 fun k ek => .inr (by cases ek; exact Nat.le_of_eq Hbm3.out.symm))); clear hown2 hg2; obtain ⟨bm4, Hbm4⟩ : ∃ b, Hid (b = m3x0.heap.size) := ⟨_, Lib.hid rfl⟩; obtain ⟨m4, Hm4⟩ : ∃ v, Hid (v = m3x0.alloc (.map #[] 0)) := ⟨_, Lib.hid rfl⟩; have HOm4 : Hid (OM m4 bm4 0 (.map [])) := (Lib.hid (by rw [Hm4.out, Hbm4.out]; exact World.ownsMap_made _ _ _ _)); have HNm4 : Hid (New m3x0 m4) := (Lib.hid (by rw [Hm4.out]; exact (Fr.refl _ _).alloc _)))
            | go_in)
          rw [← Hm4.out, ← Hbm4.out]
          obtain ⟨B, HBx⟩ : ∃ B, Hid (B = m4.heap.size) := ⟨_, Lib.hid rfl⟩
          have es : bm4 + 1 = B := by rw [HBx.out, Hm4.out, Hbm4.out]; simp
          rw [es]
          obtain ⟨w4, HW4⟩ : ∃ v, Hid (v = m4.alloc (.cells #[.map (some bm1), .map (some bm2), .map (some bm3), .map (some bm4)] 77)) := ⟨_, Lib.hid rfl⟩
          rw [← HW4.out]
          have HN34 : Hid (New wl m4) := Lib.hid (HNm1x1.out.trans (HNm2x0.out.trans (HNm3x0.out.trans HNm4.out)))
          have HNw4 : Hid (New wl w4) := Lib.hid (by rw [HW4.out]; exact HN34.out.alloc _)
          have HBl : Hid (wl.heap.size ≤ B) := Lib.hid (by rw [HBx.out]; exact HN34.out.size)
          have HBX : Hid (w4.heap[B]? = some (.cells #[.map (some bm1), .map (some bm2), .map (some bm3), .map (some bm4)] 77 (0, 0))) := Lib.hid (by rw [HW4.out, HBx.out]; exact heap_alloc_new _ _)
          have HSP : Hid (0 < q → SmAt w4 B q) := Lib.hid fun hq => by
            have s1 : Kn.sm q 0 0 = [(0, 1), (1, -1)] := by unfold Kn.sm; rw [if_pos hq]; rfl
            have s2 : Kn.sm q 0 1 = [(1, 1)] := by unfold Kn.sm; rw [if_pos hq]; rfl
            have s3 : Kn.sm q 1 0 = [(0, 1)] := by unfold Kn.sm; rw [if_pos hq]; rfl
            have s4 : Kn.sm q 1 1 = [] := by unfold Kn.sm; rw [if_pos hq]; rfl
            rw [HW4.out, HBx.out]
            refine SmAt.made ?_ ?_ ?_ ?_
            · rw [s1]; exact New.wk (HNm2x0.out.trans (HNm3x0.out.trans HNm4.out)) (wk_map HOm1x1.out (rd2 0 1 1 (-1) (by decide)) (by omega))
            · rw [s2]; exact New.wk (HNm3x0.out.trans HNm4.out) (wk_map HOm2x0.out (rd1 1 1) (by omega))
            · rw [s3]; exact New.wk HNm4.out (wk_map HOm3x0.out (rd1 0 1) (by omega))
            · rw [s4]; exact wk_map HOm4.out RD.empty (by omega)
          clear es HBx HW4 HN34 Hm1 Hbm1 Hm2 Hbm2 Hm3 Hbm3 Hm4 Hbm4 HOm1 HOm1x0 HOm1x1 HOm2 HOm2x0 HOm3 HOm3x0 HOm4 HNm1 HNm1x0 HNm1x1 HNm2 HNm2x0 HNm3 HNm3x0 HNm4
          go_cut [] (fun wx => CutS wl B q wx)
          case first =>
              rcases Int.lt_or_lt_of_ne h0 with hneg | hpos
              · have hng : q < 0 := hneg
                obtain ⟨bn1, Hbn1⟩ : ∃ b, Hid (b = w4.heap.size) := ⟨_, Lib.hid rfl⟩
                obtain ⟨n1, Hn1⟩ : ∃ v, Hid (v = w4.alloc (.map #[] 0)) := ⟨_, Lib.hid rfl⟩
                have HOn1 : Hid (OM n1 bn1 0 (.map [])) := (Lib.hid (by rw [Hn1.out, Hbn1.out]; exact World.ownsMap_made _ _ _ _))
                have HNn1 : Hid (New w4 n1) := (Lib.hid (by rw [Hn1.out]; exact (Fr.refl _ _).alloc _))
                obtain ⟨bn2, Hbn2⟩ : ∃ b, Hid (b = n1.heap.size) := ⟨_, Lib.hid rfl⟩
                obtain ⟨n2, Hn2⟩ : ∃ v, Hid (v = n1.alloc (.map #[] 0)) := ⟨_, Lib.hid rfl⟩
                have HOn2 : Hid (OM n2 bn2 0 (.map [])) := (Lib.hid (by rw [Hn2.out, Hbn2.out]; exact World.ownsMap_made _ _ _ _))
                have HNn2 : Hid (New n1 n2) := (Lib.hid (by rw [Hn2.out]; exact (Fr.refl _ _).alloc _))
                have HEN2 : Hid (w4.heap.size + 1 = bn2) := Lib.hid (by rw [Hbn2.out, Hn1.out]; simp)
                go_wp2_with (first
                  | (rw [← Hn1.out, ← Hn2.out, HEN2.out, ← Hbn1.out]; refine wpList_insert_own _ rfl _ _ _ 64 rfl 3 3 law3 ul45 _ _ 0 _ rfl HOn2.out (by unfold maxLen; omega) _ _ _ rfl rfl (Maps.keyOf_int_mk Tryd.underlying3 (wf64 (by omega))) _ [] (plainElem_int Tryd.underlying3 (wf64 (by omega))) ?_; intro n2x0 hown2 hg2; have HOn2x0 := Lib.hid hown2; have HNn2x0 : Hid (New n1 n2x0) := (Lib.hid (HNn2.out.grown hg2 fun k ek => .inr (by cases ek; exact Nat.le_of_eq Hbn2.out.symm))); clear hown2 hg2; obtain ⟨bn3, Hbn3⟩ : ∃ b, Hid (b = n2x0.heap.size) := ⟨_, Lib.hid rfl⟩; obtain ⟨n3, Hn3⟩ : ∃ v, Hid (v = n2x0.alloc (.map #[] 0)) := ⟨_, Lib.hid rfl⟩; have HOn3 : Hid (OM n3 bn3 0 (.map [])) := (Lib.hid (by rw [Hn3.out, Hbn3.out]; exact World.ownsMap_made _ _ _ _)); have HNn3 : Hid (New n2x0 n3) := (Lib.hid (by rw [Hn3.out]; exact (Fr.refl _ _).alloc _)))
                  | (rw [← Hn3.out, ← Hbn3.out]; refine wpList_insert_own _ rfl _ _ _ 64 rfl 3 3 law3 ul45 _ _ 0 _ rfl HOn3.out (by unfold maxLen; omega) _ _ _ rfl rfl (Maps.keyOf_int_mk Tryd.underlying3 (wf64 (by omega))) _ [] (plainElem_int Tryd.underlying3 (wf64 (by omega))) ?_; intro n3x0 hown2 hg2; have HOn3x0 := Lib.hid hown2; have HNn3x0 : Hid (New n2x0 n3x0) := (Lib.hid (HNn3.out.grown hg2 fun k ek => .inr (by cases ek; exact Nat.le_of_eq Hbn3.out.symm))); clear hown2 hg2; obtain ⟨bn4, Hbn4⟩ : ∃ b, Hid (b = n3x0.heap.size) := ⟨_, Lib.hid rfl⟩; obtain ⟨n4, Hn4⟩ : ∃ v, Hid (v = n3x0.alloc (.map #[] 0)) := ⟨_, Lib.hid rfl⟩; have HOn4 : Hid (OM n4 bn4 0 (.map [])) := (Lib.hid (by rw [Hn4.out, Hbn4.out]; exact World.ownsMap_made _ _ _ _)); have HNn4 : Hid (New n3x0 n4) := (Lib.hid (by rw [Hn4.out]; exact (Fr.refl _ _).alloc _)))
                  | (rw [← Hn4.out, ← Hbn4.out]; refine wpList_insert_own _ rfl _ _ _ 64 rfl 3 3 law3 ul45 _ _ 0 _ rfl HOn4.out (by unfold maxLen; omega) _ _ _ rfl rfl (Maps.keyOf_int_mk Tryd.underlying3 (wf64 (by omega))) _ [] (plainElem_int Tryd.underlying3 (wf64 (by omega))) ?_; intro n4x0 hown2 hg2; have HOn4x0 := Lib.hid hown2; have HNn4x0 : Hid (New n3x0 n4x0) := (Lib.hid (HNn4.out.grown hg2 fun k ek => .inr (by cases ek; exact Nat.le_of_eq Hbn4.out.symm))); clear hown2 hg2)
                  | (refine wpList_insert_own _ rfl _ _ _ 64 rfl 3 3 law3 ul45 _ _ 1 _ rfl HOn4x0.out (by unfold maxLen; omega) _ _ _ rfl rfl (Maps.keyOf_int_mk Tryd.underlying3 (wf64 (by omega))) _ [] (plainElem_int Tryd.underlying3 (wf64 (by omega))) ?_; intro n4x1 hown2 hg2; have HOn4x1 := Lib.hid hown2; have HNn4x1 : Hid (New n3x0 n4x1) := (Lib.hid (HNn4x0.out.grown hg2 fun k ek => .inr (by cases ek; exact Nat.le_of_eq Hbn4.out.symm))); clear hown2 hg2; obtain ⟨y1, y2, y3, y4, z1, z2, z3, z4⟩ := box4_c ((HNn1.out.trans (HNn2x0.out.trans (HNn3x0.out.trans HNn4x1.out))).blk HBX.out fun x => x))
                  | go_in)
                have hbx := (HNn1.out.trans (HNn2x0.out.trans (HNn3x0.out.trans HNn4x1.out))).blk HBX.out fun x => x
                have s1 : Kn.sm q 0 0 = [] := by unfold Kn.sm; rw [if_neg (by omega)]; rfl
                have s2 : Kn.sm q 0 1 = [(0, 1)] := by unfold Kn.sm; rw [if_neg (by omega)]; rfl
                have s3 : Kn.sm q 1 0 = [(-1, 1)] := by unfold Kn.sm; rw [if_neg (by omega)]; rfl
                have s4 : Kn.sm q 1 1 = [(0, 1), (-1, -1)] := by unfold Kn.sm; rw [if_neg (by omega)]; rfl
                have hF4 := box4_fr n4x1 B (.map (some bn1)) (.map (some bn2)) (.map (some bn3)) (.map (some bn4))
                have hSB : ∀ k, (fun k => k = B) k → ∃ c t, n4x1.heap[k]? = some (.cells c t (0, 0)) := fun k hk => by
                  have hk' : k = B := hk
                  rw [hk']; exact ⟨_, _, hbx⟩
                go_meet
                refine ⟨⟨_, _, _, _, box4_set hbx _ _ _ _, ?_, ?_, ?_, ?_⟩, HNw4.out.next (((HNn1.out.trans (HNn2x0.out.trans (HNn3x0.out.trans HNn4x1.out))).mono fun _ h => h.elim).trans hF4) fun i hi => .inr (by have hi' : i = B := hi; rw [hi']; exact HBl.out)⟩
                · rw [s1]; exact (New.wk (HNn2x0.out.trans (HNn3x0.out.trans HNn4x1.out)) (wk_map HOn1.out RD.empty (by omega))).frC hF4 hSB
                · rw [s2]; exact (New.wk (HNn3x0.out.trans HNn4x1.out) (wk_map HOn2x0.out (rd1 0 1) (by omega))).frC hF4 hSB
                · rw [s3]; exact (New.wk HNn4x1.out (wk_map HOn3x0.out (rd1 (-1) 1) (by omega))).frC hF4 hSB
                · rw [s4]; exact (wk_map HOn4x1.out (rd2 0 1 (-1) (-1) (by decide)) (by omega)).frC hF4 hSB
              · have hnn : ¬ q < 0 := by omega
                go_wp2_with fail
                go_meet
                exact ⟨HSP.out hpos, HNw4.out⟩
          case rest =>
          obtain ⟨wb, rfl⟩ : ∃ wb : World, wb = wc := ⟨_, rfl⟩
          have HSM : Hid (SmAt wb B q) := Lib.hid hcut.1
          have HBb : Hid (BtW w wb G n n R (fun j => if j < 0 then Kn.burB xs (k + 1) j else Kn.burB xs k j)) := Lib.hid ((HB.out.nw hcut.2).congr fun i j _ _ => by rw [if_neg (by omega)])
          have HRlt : Hid (∀ r, r < n → R r < B) := Lib.hid fun r hr => by
            obtain ⟨f, hf, _⟩ := HB.out.el r hr
            have := hf.lt
            have := HBl.out
            omega
          have HPQ : Hid (p = q.natAbs - 1) := Lib.hid (by omega)
          clear hcut HSP HBX HBl HNw4
          go_wp2_with fail
          go_loopw [103] (fun i wr => ∃ (r : Nat), r ≤ n ∧ i = .int .i64 r ∧ Hid (BtW w wr G n n R (fun j => if j < r then Kn.burB xs (k + 1) j else Kn.burB xs k j)) ∧ Hid (SmAt wr B q)) (fun i _ => n - (intOf i).toNat)
          case atStart => exact ⟨0, by omega, rfl, HBb, HSM⟩
          case round =>
            obtain ⟨r, hr, rfl, HBr, HS⟩ := hrel
            obtain ⟨wr0, rfl⟩ : ∃ w0 : World, w0 = wr := ⟨_, rfl⟩
            by_cases hrn : r < n
            · obtain ⟨f, hf, hw⟩ := HBr.out.el r hrn
              have hTr : ∀ c, (if r < r then Kn.burB xs (k + 1) r else Kn.burB xs k r) c = Kn.burB xs k r c := fun c => by rw [if_neg (Nat.lt_irrefl r)]
              obtain ⟨x, HXe⟩ : ∃ x, Hid (x = f p) := ⟨_, Lib.hid rfl⟩
              obtain ⟨y, HYe⟩ : ∃ y, Hid (y = f (p + 1)) := ⟨_, Lib.hid rfl⟩
              obtain ⟨Rr, HRr⟩ : ∃ b, Hid (b = R r) := ⟨_, Lib.hid rfl⟩
              have c0 := HBr.out.cell hrn (Nat.le_refl n)
              rw [← HRr.out] at c0 hf
              have c1 := hf.cell (i := p) (by omega)
              have c2 := hf.cell (i := p + 1) hpn
              rw [← HXe.out] at c1
              rw [← HYe.out] at c2
              have HWX : Hid (Wk wr0 x (Kn.burB xs k r p) 15) := Lib.hid (by have := hw p (by omega); rw [← HXe.out] at this; rwa [hTr] at this)
              have HWY : Hid (Wk wr0 y (Kn.burB xs k r (p + 1)) 15) := Lib.hid (by have := hw (p + 1) hpn; rw [← HYe.out] at this; rwa [hTr] at this)
              have HRow := Lib.hid hf
              have HB1 : Hid (BuB (Kn.burB xs k r p)) := Lib.hid (bur_b (by omega) r p)
              have HB2 : Hid (BuB (Kn.burB xs k r (p + 1))) := Lib.hid (bur_b (by omega) r (p + 1))
              obtain ⟨lx, HLx⟩ : ∃ l, Hid (l = Kn.burB xs k r p) := ⟨_, Lib.hid rfl⟩
              obtain ⟨ly, HLy⟩ : ∃ l, Hid (l = Kn.burB xs k r (p + 1)) := ⟨_, Lib.hid rfl⟩
              rw [← HLx.out] at HWX HB1
              rw [← HLy.out] at HWY HB2
              obtain ⟨v00, v01, v10, v11, hbx, s1, s2, s3, s4⟩ := HS.out.v
              have HBX := Lib.hid hbx
              have HS1 := Lib.hid s1
              have HS2 := Lib.hid s2
              have HS3 := Lib.hid s3
              have HS4 := Lib.hid s4
              have hnRB : Rr ≠ B := by have := HRlt.out r hrn; rw [HRr.out]; omega
              have i3 : (0 : Int) ≤ (r : Int) := by omega
              have i4 : (r : Int) < (n : Int) := by omega
              have i5 : (0 : Int) ≤ (p : Int) := by omega
              have i6 : (p : Int) < (n : Int) := by omega
              have i7 : (0 : Int) ≤ (p : Int) + 1 := by omega
              have i8 : (p : Int) + 1 < (n : Int) := by omega
              have hw2 := hw
              clear hw
              have hw : IntKind.i64.wrap ((p : Int) + 1) = ((p + 1 : Nat) : Int) := by rw [IntWalk.i64_in _ (by omega)]; rfl
              clear hf s1 s2 s3 s4 hbx
              go_upto_region 26 with fail
              go_quiet (fail)
              have HW0 : Hid (New wr0 (wr0.drewN nq)) := Lib.hid ((Fr.refl (fun _ => False) _).drewN nq)
              obtain ⟨v0, hv0⟩ : ∃ v, v = wr0.drewN nq := ⟨_, rfl⟩
              rw [← hv0] at HW0 ⊢
              clear hv0
              have HRow : Hid (v0.rowIs Rr 64 n f) := Lib.hid (HW0.out.row HRow.out fun x => x)
              have HWX := Lib.hid (New.wk HW0.out HWX.out)
              have HWY := Lib.hid (New.wk HW0.out HWY.out)
              have HS1 := Lib.hid (New.wk HW0.out HS1.out)
              have HS2 := Lib.hid (New.wk HW0.out HS2.out)
              have HS3 := Lib.hid (New.wk HW0.out HS3.out)
              have HS4 := Lib.hid (New.wk HW0.out HS4.out)
              have HRW0 : Hid (RWc v0 Rr n (Kn.burB xs k r)) := Lib.hid ⟨f, HRow.out, fun j hj => New.wk HW0.out (by have := hw2 j hj; rwa [hTr] at this)⟩
              have HBX0 : Hid (v0.heap[B]? = some (.cells #[v00, v01, v10, v11] 77 (0, 0))) := Lib.hid (HW0.out.blk HBX.out fun x => x)
              obtain ⟨q0, q1, q2, q3, _⟩ := box4_c HBX0.out
              clear c0 c1 c2
              have HD : Hid (New v0 (v0).drew) := Lib.hid (Fr.refl (fun _ => False) _).drew
              have HQa : Hid ((v0).cell? ⟨B, 0, none⟩ = some v00) := Lib.hid q0
              have HQb : Hid ((v0).cell? ⟨B, 2, none⟩ = some v10) := Lib.hid q2
              clear q0 q1 q2 q3
              go_wp2_with fail
              refine wp_region_held_drew (S := fun wz => wz.cell? ⟨B, 0, none⟩ = some v00 ∧ wz.cell? ⟨B, 2, none⟩ = some v10) (by kernel_rfl) ⟨HD.out.cell HQa.out fun x => x, HD.out.cell HQb.out fun x => x⟩ (fun hHeld => ?_)
              refine' tkO (i := 0) ?_
              (try simp only [Act.put, lq1, lq2, lq3, lq4, lq5, lq6])
              refine' tkO (i := 1) ?_
              (try simp only [Act.put, lq1, lq2, lq3, lq4, lq5, lq6])
              refine' tkO (i := 2) ?_
              (try simp only [Act.put, lq1, lq2, lq3, lq4, lq5, lq6])
              refine' tkO (i := 3) ?_
              (try simp only [Act.put, lq1, lq2, lq3, lq4, lq5, lq6])
              refine' tkO (i := 4) ?_
              (try simp only [Act.put, lq1, lq2, lq3, lq4, lq5, lq6])
              refine' tkO (i := 5) ?_
              (try simp only [Act.put, lq1, lq2, lq3, lq4, lq5, lq6])
              refine' tkO (i := 7) ?_
              (try simp only [Act.put, lq1, lq2, lq3, lq4, lq5, lq6])
              refine' tkO (i := 8) ?_
              (try simp only [Act.put, lq1, lq2, lq3, lq4, lq5, lq6])
              refine' tkO (i := 9) ?_
              (try simp only [Act.put, lq1, lq2, lq3, lq4, lq5, lq6])
              refine' tkO (i := 10) ?_
              (try simp only [Act.put, lq1, lq2, lq3, lq4, lq5, lq6])
              refine wpAnyH_ready (rs := [6]) (by kernel_rfl) (by simp) ?_
              refine AllReadyH.cons rfl (fun K hK => ?_) (AllReadyH.nil)
              (try simp only [lq1, lq2, lq3])
              go_simp
              refine (timesW_any x v00 lx (Kn.sm q 0 0) 15 3 _ (New.wk HD.out HWX.out) (New.wk HD.out HS1.out) (by omega) (HB1.out.e.mono (by omega)) ((sm_b q 0 0).mono (by omega)) (by have := HB1.out.s; have := Nat.mul_le_mul this (Kn.sm_size q 0 0); omega)).mono ?_
              rintro e wa ⟨u, rfl, hu, hn1⟩
              have hN : New (v0) wa := HD.out.trans hn1
              go_wp2_with fail
              refine hK.out _ _ ⟨hN.cell HQa.out fun x => x, hN.cell HQb.out fun x => x⟩ (fun hHeld => ?_)
              clear hK K
              (try simp only [Act.put, lq1, lq2, lq3, lq4, lq5, lq6])
              refine wpAnyH_ready (rs := [11]) (by kernel_rfl) (by simp) ?_
              refine AllReadyH.cons rfl (fun K hK => ?_) (AllReadyH.nil)
              (try simp only [lq1, lq2, lq3])
              go_simp
              refine (timesW_any y v10 ly (Kn.sm q 1 0) 15 3 _ (New.wk hN HWY.out) (New.wk hN HS3.out) (by omega) (HB2.out.e.mono (by omega)) ((sm_b q 1 0).mono (by omega)) (by have := HB2.out.s; have := Nat.mul_le_mul this (Kn.sm_size q 1 0); omega)).mono ?_
              rintro e wb ⟨u2, rfl, hu2, hn2⟩
              have hN0 := hN
              clear hN
              have hN : New (v0) wb := hN0.trans hn2
              go_wp2_with fail
              refine hK.out _ _ ⟨hN.cell HQa.out fun x => x, hN.cell HQb.out fun x => x⟩ (fun hHeld => ?_)
              clear hK K
              (try simp only [Act.put, lq1, lq2, lq3, lq4, lq5, lq6])
              refine wpAnyH_ready (rs := [12]) (by kernel_rfl) (by simp) ?_
              refine AllReadyH.cons rfl (fun K hK => ?_) (AllReadyH.nil)
              (try simp only [lq1, lq2, lq3])
              go_simp
              refine (plusW_any u u2 _ _ (15 * 3) (15 * 3) _ (New.wk hn2 hu) hu2 (by omega) ((mul_b HB2.out q 1 0).2.mono (by omega)) (by have := (mul_b HB1.out q 0 0).1; have := (mul_b HB2.out q 1 0).1; omega)).mono ?_
              rintro e wd ⟨u3, rfl, hu3, hn3⟩
              obtain ⟨b9, D9, rfl, ho9, hr9⟩ := hu3
              have hN1 := hN
              clear hN
              have hN : New (v0) wd := hN1.trans hn3
              have q6 := hN.row HRow.out (fun x => x)
              have f6 := q6.frozen (p)
              have c6 := q6.cell (i := p) (by omega)
              go_wp2_with fail
              refine hK.out _ _ ⟨hN.cell HQa.out fun x => x, hN.cell HQb.out fun x => x⟩ (fun hHeld => ?_)
              clear hK K
              (try simp only [Act.put, lq1, lq2, lq3, lq4, lq5, lq6])
              refine' tkO (i := 13) ?_
              (try simp only [Act.put, lq1, lq2, lq3, lq4, lq5, lq6])
              refine wpAnyH_ready (rs := [14]) (by kernel_rfl) (by simp) ?_
              refine AllReadyH.cons rfl (fun K hK => ?_) (AllReadyH.nil)
              (try simp only [lq1, lq2, lq3])
              go_simp
              refine hK.out _ _ ⟨((Fr.refl (fun k => k = Rr) _).setCell (a := ⟨Rr, p, none⟩) (.inl rfl) _).cell (hN.cell HQa.out fun x => x) hnRB.symm, ((Fr.refl (fun k => k = Rr) _).setCell (a := ⟨Rr, p, none⟩) (.inl rfl) _).cell (hN.cell HQb.out fun x => x) hnRB.symm⟩ (fun hHeld => ?_)
              clear hK K
              (try simp only [Act.put, lq1, lq2, lq3, lq4, lq5, lq6])
              refine wpAnyH_done (by kernel_rfl) ?_ _
              have hSt : Fr (fun k => k = Rr) wd (wd.setCell ⟨Rr, p, none⟩ (.map (some b9))) := (Fr.refl (fun k => k = Rr) _).setCell (a := ⟨Rr, p, none⟩) (.inl rfl) _
              obtain ⟨v1, HV1⟩ : ∃ v, Hid (v = wd.setCell ⟨Rr, p, none⟩ (.map (some b9))) := ⟨_, Lib.hid rfl⟩
              rw [← HV1.out] at hSt ⊢
              have hL9 : Wk wd (.map (some b9)) (Kn.burB xs (k + 1) r p) 15 := bur_t (by omega) (n := 15 * 3 + 15 * 3) (by rw [bur_l HQ.out HPQ.out, ← HLx.out, ← HLy.out]; exact ⟨b9, D9, rfl, ho9, hr9⟩)
              have HRow2 : Hid (v1.rowIs Rr 64 n (fun j => if j = p then .map (some b9) else f j)) := Lib.hid (by rw [HV1.out]; exact q6.set p _)
              have HRW1 : Hid (RWc v1 Rr n (fun j => if j = p then Kn.burB xs (k + 1) r p else Kn.burB xs k r j)) := Lib.hid (by rw [HV1.out]; exact (HRW0.out.new hN).put hL9)
              have HF1 : Hid (Fr (fun k => k = Rr) v0 v1) := Lib.hid ((hN.mono fun _ h => h.elim).trans hSt)
              have HWX2 : Hid (Wk v1 x lx 15) := Lib.hid ((New.wk hN HWX.out).frow hSt q6)
              have HWY2 : Hid (Wk v1 y ly 15) := Lib.hid ((New.wk hN HWY.out).frow hSt q6)
              have HS22 : Hid (Wk v1 v01 (Kn.sm q 0 1) 3) := Lib.hid ((New.wk hN HS2.out).frow hSt q6)
              have HS42 : Hid (Wk v1 v11 (Kn.sm q 1 1) 3) := Lib.hid ((New.wk hN HS4.out).frow hSt q6)
              have HBX1 : Hid (v1.heap[B]? = some (.cells #[v00, v01, v10, v11] 77 (0, 0))) := Lib.hid (HF1.out.blk HBX0.out fun e => hnRB e.symm)
              obtain ⟨q0, q1, q2, q3, _⟩ := box4_c HBX1.out
              clear HV1 hSt hL9 hN hN0 hN1 hn1 hn2 hn3 hu hu2 ho9 hr9 f6 c6 q6 hHeld HRW0 HD HQa HQb
              have HD : Hid (New v1 (v1).drew) := Lib.hid (Fr.refl (fun _ => False) _).drew
              have HQa : Hid ((v1).cell? ⟨B, 1, none⟩ = some v01) := Lib.hid q1
              have HQb : Hid ((v1).cell? ⟨B, 3, none⟩ = some v11) := Lib.hid q3
              clear q0 q1 q2 q3
              go_wp2_with fail
              refine wp_region_held_drew (S := fun wz => wz.cell? ⟨B, 1, none⟩ = some v01 ∧ wz.cell? ⟨B, 3, none⟩ = some v11) (by kernel_rfl) ⟨HD.out.cell HQa.out fun x => x, HD.out.cell HQb.out fun x => x⟩ (fun hHeld => ?_)
              refine' tkO (i := 0) ?_
              (try simp only [Act.put, lq1, lq2, lq3, lq4, lq5, lq6])
              refine' tkO (i := 1) ?_
              (try simp only [Act.put, lq1, lq2, lq3, lq4, lq5, lq6])
              refine' tkO (i := 2) ?_
              (try simp only [Act.put, lq1, lq2, lq3, lq4, lq5, lq6])
              refine' tkO (i := 3) ?_
              (try simp only [Act.put, lq1, lq2, lq3, lq4, lq5, lq6])
              refine' tkO (i := 4) ?_
              (try simp only [Act.put, lq1, lq2, lq3, lq4, lq5, lq6])
              refine' tkO (i := 5) ?_
              (try simp only [Act.put, lq1, lq2, lq3, lq4, lq5, lq6])
              refine' tkO (i := 6) ?_
              (try simp only [Act.put, lq1, lq2, lq3, lq4, lq5, lq6])
              refine' tkO (i := 8) ?_
              (try simp only [Act.put, lq1, lq2, lq3, lq4, lq5, lq6])
              refine' tkO (i := 9) ?_
              (try simp only [Act.put, lq1, lq2, lq3, lq4, lq5, lq6])
              refine' tkO (i := 10) ?_
              (try simp only [Act.put, lq1, lq2, lq3, lq4, lq5, lq6])
              refine' tkO (i := 11) ?_
              (try simp only [Act.put, lq1, lq2, lq3, lq4, lq5, lq6])
              refine wpAnyH_ready (rs := [7]) (by kernel_rfl) (by simp) ?_
              refine AllReadyH.cons rfl (fun K hK => ?_) (AllReadyH.nil)
              (try simp only [lq1, lq2, lq3])
              go_simp
              refine (timesW_any x v01 lx (Kn.sm q 0 1) 15 3 _ (New.wk HD.out HWX2.out) (New.wk HD.out HS22.out) (by omega) (HB1.out.e.mono (by omega)) ((sm_b q 0 1).mono (by omega)) (by have := HB1.out.s; have := Nat.mul_le_mul this (Kn.sm_size q 0 1); omega)).mono ?_
              rintro e wa ⟨u, rfl, hu, hn1⟩
              have hN : New (v1) wa := HD.out.trans hn1
              go_wp2_with fail
              refine hK.out _ _ ⟨hN.cell HQa.out fun x => x, hN.cell HQb.out fun x => x⟩ (fun hHeld => ?_)
              clear hK K
              (try simp only [Act.put, lq1, lq2, lq3, lq4, lq5, lq6])
              refine wpAnyH_ready (rs := [12]) (by kernel_rfl) (by simp) ?_
              refine AllReadyH.cons rfl (fun K hK => ?_) (AllReadyH.nil)
              (try simp only [lq1, lq2, lq3])
              go_simp
              refine (timesW_any y v11 ly (Kn.sm q 1 1) 15 3 _ (New.wk hN HWY2.out) (New.wk hN HS42.out) (by omega) (HB2.out.e.mono (by omega)) ((sm_b q 1 1).mono (by omega)) (by have := HB2.out.s; have := Nat.mul_le_mul this (Kn.sm_size q 1 1); omega)).mono ?_
              rintro e wb ⟨u2, rfl, hu2, hn2⟩
              have hN0 := hN
              clear hN
              have hN : New (v1) wb := hN0.trans hn2
              go_wp2_with fail
              refine hK.out _ _ ⟨hN.cell HQa.out fun x => x, hN.cell HQb.out fun x => x⟩ (fun hHeld => ?_)
              clear hK K
              (try simp only [Act.put, lq1, lq2, lq3, lq4, lq5, lq6])
              refine wpAnyH_ready (rs := [13]) (by kernel_rfl) (by simp) ?_
              refine AllReadyH.cons rfl (fun K hK => ?_) (AllReadyH.nil)
              (try simp only [lq1, lq2, lq3])
              go_simp
              refine (plusW_any u u2 _ _ (15 * 3) (15 * 3) _ (New.wk hn2 hu) hu2 (by omega) ((mul_b HB2.out q 1 1).2.mono (by omega)) (by have := (mul_b HB1.out q 0 1).1; have := (mul_b HB2.out q 1 1).1; omega)).mono ?_
              rintro e wd ⟨u3, rfl, hu3, hn3⟩
              obtain ⟨b9, D9, rfl, ho9, hr9⟩ := hu3
              have hN1 := hN
              clear hN
              have hN : New (v1) wd := hN1.trans hn3
              have q6 := hN.row HRow2.out (fun x => x)
              have f6 := q6.frozen (p + 1)
              have c6 := q6.cell (i := p + 1) (by omega)
              go_wp2_with fail
              refine hK.out _ _ ⟨hN.cell HQa.out fun x => x, hN.cell HQb.out fun x => x⟩ (fun hHeld => ?_)
              clear hK K
              (try simp only [Act.put, lq1, lq2, lq3, lq4, lq5, lq6])
              refine' tkO (i := 14) ?_
              (try simp only [Act.put, lq1, lq2, lq3, lq4, lq5, lq6])
              refine wpAnyH_ready (rs := [15]) (by kernel_rfl) (by simp) ?_
              refine AllReadyH.cons rfl (fun K hK => ?_) (AllReadyH.nil)
              (try simp only [lq1, lq2, lq3])
              go_simp
              refine hK.out _ _ ⟨((Fr.refl (fun k => k = Rr) _).setCell (a := ⟨Rr, p + 1, none⟩) (.inl rfl) _).cell (hN.cell HQa.out fun x => x) hnRB.symm, ((Fr.refl (fun k => k = Rr) _).setCell (a := ⟨Rr, p + 1, none⟩) (.inl rfl) _).cell (hN.cell HQb.out fun x => x) hnRB.symm⟩ (fun hHeld => ?_)
              clear hK K
              (try simp only [Act.put, lq1, lq2, lq3, lq4, lq5, lq6])
              refine wpAnyH_done (by kernel_rfl) ?_ _
              have hSt : Fr (fun k => k = Rr) wd (wd.setCell ⟨Rr, p + 1, none⟩ (.map (some b9))) := (Fr.refl (fun k => k = Rr) _).setCell (a := ⟨Rr, p + 1, none⟩) (.inl rfl) _
              obtain ⟨v2, HV2⟩ : ∃ v, Hid (v = wd.setCell ⟨Rr, p + 1, none⟩ (.map (some b9))) := ⟨_, Lib.hid rfl⟩
              rw [← HV2.out] at hSt ⊢
              have hL9 : Wk wd (.map (some b9)) (Kn.burB xs (k + 1) r (p + 1)) 15 := bur_t (by omega) (n := 15 * 3 + 15 * 3) (by rw [bur_r HQ.out HPQ.out, ← HLx.out, ← HLy.out]; exact ⟨b9, D9, rfl, ho9, hr9⟩)
              have HRW2 : Hid (RWc v2 Rr n (Kn.burB xs (k + 1) r)) := Lib.hid (by
                rw [HV2.out]
                refine ((HRW1.out.new hN).put hL9).congr fun j hj => ?_
                by_cases e1 : j = p + 1
                · rw [if_pos e1, e1]
                · rw [if_neg e1]
                  by_cases e2 : j = p
                  · rw [if_pos e2, e2]
                  · rw [if_neg e2, bur_o HQ.out HPQ.out e2 e1])
              have HF2 : Hid (Fr (fun k => k = Rr) wr0 v2) := Lib.hid ((HW0.out.mono fun _ h => h.elim).trans (HF1.out.trans ((hN.mono fun _ h => h.elim).trans hSt)))
              have hF02 : Fr (fun k => k = Rr) v0 v2 := HF1.out.trans ((hN.mono fun _ h => h.elim).trans hSt)
              have HBX2 : Hid (SmAt v2 B q) := Lib.hid ⟨v00, v01, v10, v11, HF2.out.blk HBX.out fun e => hnRB e.symm, HS1.out.frow hF02 HRow.out, HS2.out.frow hF02 HRow.out, HS3.out.frow hF02 HRow.out, HS4.out.frow hF02 HRow.out⟩
              have HBr2 : Hid (BtW w v2 G n n R (fun j => if j < r + 1 then Kn.burB xs (k + 1) j else Kn.burB xs k j)) := Lib.hid ((HBr.out.turn hrn (by rw [← HRr.out]; exact HF2.out) (by rw [← HRr.out]; exact HRW2.out)).congr fun j c _ _ => by
                by_cases e : j = r
                · rw [if_pos e, if_pos (by omega), e]
                · rw [if_neg e]
                  by_cases e2 : j < r
                  · rw [if_pos e2, if_pos (by omega)]
                  · rw [if_neg e2, if_neg (by omega)])
              clear HV2 hSt hL9 hN hN0 hN1 hn1 hn2 hn3 hu hu2 ho9 hr9 f6 c6 q6 hHeld hF02 HD HQa HQb
              go_wp2_with fail
              go_roundw
              case rel => exact ⟨r + 1, by omega, by go_num, HBr2, HBX2⟩
              case measure => simp [intOf]; omega
            · obtain rfl : n = r := by omega
              have HBk : Hid (BtW w wr0 G n n R (Kn.burB xs (k + 1))) := Lib.hid (HBr.out.congr fun i j hi _ => by rw [if_pos hi])
              go_wp2_with fail
              go_roundw
              case rel => exact ⟨k + 1, by omega, by go_num, HBk⟩
              case measure => simp [intOf]; omega
        -- MARKZ
        · obtain rfl : k = len := by omega
          obtain ⟨i0, hi, hz0, hz1, hz2⟩ := info_parts info33t
          obtain ⟨i1, hi1, hz10, hz11, hz12⟩ := info_parts info41t
          obtain ⟨T, HT⟩ : ∃ T, Hid (T = Kn.burB xs k) := ⟨_, Lib.hid rfl⟩
          rw [← HT.out] at HB
          go_wp2_with fail
          go_loopw [18, 149] (fun out i wr => ∃ (r : Nat) (vs : List Value) (ms : Pl.Tab), r ≤ n ∧ i = .int .i64 r ∧ Hid (vs.length = r) ∧ Hid (OwnV wl.heap.size 41 wr out vs) ∧ Hid (ElsP (OwnTRow wr) vs ms) ∧ Hid (PreB r n T ms) ∧ Hid (New wl wr)) (fun _ i _ => n - (intOf i).toNat)
          case atStart => exact ⟨0, [], [], by omega, rfl, Lib.hid rfl, Lib.hid (World.ownsRow_nil _ _ _ _), Lib.hid ElsP.nil, Lib.hid ⟨rfl, fun i hi => absurd hi (by omega)⟩, Lib.hid (Fr.refl _ _)⟩
          case round =>
            obtain ⟨r, vs, ms, hr, rfl, HVl, HO, HX, HP, HF⟩ := hrel
            obtain ⟨wo2, rfl⟩ : ∃ wo2 : World, wo2 = wr := ⟨_, rfl⟩
            by_cases hrn : r < n
            · have c0 := HF.out.cell (HB.out.cell hrn (Nat.le_refl n)) fun x => x
              have i3 : (0 : Int) ≤ (r : Int) := by omega
              have i4 : (r : Int) < (n : Int) := by omega
              obtain ⟨f, hf, hw⟩ := (HB.out.el r hrn).new HF.out
              obtain ⟨Rr, HRr⟩ : ∃ b, Hid (b = R r) := ⟨_, Lib.hid rfl⟩
              rw [← HRr.out] at c0 hf
              have HRow := Lib.hid hf
              have HWk := Lib.hid hw
              clear hf hw
              go_wp2_with fail
              go_loopw [21, 155] (fun lv i wi => ∃ (j : Nat) (ys : List Value) (rs : List (List Pl.T)), j ≤ n ∧ i = .int .i64 j ∧ Hid (ys.length = j) ∧ Hid (OwnV wo2.heap.size 33 wi lv ys) ∧ Hid (ElsP (OwnT 0 wi) ys rs) ∧ Hid (PreR j (T r) rs) ∧ Hid (New wo2 wi)) (fun _ i _ => n - (intOf i).toNat)
              case atStart => exact ⟨0, [], [], by omega, rfl, Lib.hid rfl, Lib.hid (World.ownsRow_nil _ _ _ _), Lib.hid ElsP.nil, Lib.hid ⟨rfl, fun i hi => absurd hi (by omega)⟩, Lib.hid (Fr.refl _ _)⟩
              case round =>
                obtain ⟨j, ys, rs, hj, rfl, HYl, HOy, HY, HPr, HFi⟩ := hrel
                by_cases hjn : j < n
                · have c1 := (HFi.out.row HRow.out fun x => x).cell (i := j) hjn
                  obtain ⟨x, HXe⟩ : ∃ x, Hid (x = f j) := ⟨_, Lib.hid rfl⟩
                  rw [← HXe.out] at c1
                  have HWX : Hid (Wk wr x (T r j) 15) := Lib.hid (by rw [HXe.out]; exact New.wk HFi.out (HWk.out j hjn))
                  have i5 : (0 : Int) ≤ (j : Int) := by omega
                  have i6 : (j : Int) < (n : Int) := by omega
                  go_wp2_with fail
                  refine (formO_any x (T r j) 15 _ HWX.out (by omega)).mono ?_
                  rintro e w6 ⟨m, hm, v6, rfl, hv6, hn6⟩
                  have HM := Lib.hid hm
                  have HV6 := Lib.hid hv6
                  obtain ⟨a9, c9, rfl, _⟩ := hv6.ts
                  have HOy6 : Hid (OwnV wo2.heap.size 33 w6 _ ys) := Lib.hid (New.own hn6 HOy.out)
                  have HY6 : Hid (ElsP (OwnT 0 w6) ys rs) := Lib.hid (HY.out.mono fun _ _ h => New.ownT hn6 h)
                  have HF6 : Hid (New wo2 w6) := Lib.hid (HFi.out.trans hn6)
                  obtain ⟨ml, HMl⟩ : ∃ z, Hid (z = m.length) := ⟨_, Lib.hid rfl⟩
                  rw [← HMl.out] at HV6 ⊢
                  clear hm hv6 hn6
                  go_wp2_with (at_builtin; refine wpList_append_own _ rfl _ _ 41 rfl wo2.heap.size 33 i0 (.slice none 0 0) 1 24 Tryd.underlying41 hi hz0 hz1 hz2 rfl (by decide) _ ys.length ys rfl (OwnV.alloc HOy6.out _) ⟨_, 0, none⟩ 1 1 [.slice a9 ml c9] rfl rfl ?c2 ?c3 ?c4 ?c5 ?c6 ?_)
                  case c2 => exact cell_one_new _ _ _
                  case c3 => intro u hu; rw [List.mem_singleton] at hu; subst hu; rfl
                  case c4 => have := HYl.out; unfold maxLen; omega
                  case c5 => have := HYl.out; omega
                  case c6 => have := HF6.out.size; simp; omega
                  intro v' w7 hown hgrow _
                  have HO7 : Hid (OwnV wo2.heap.size 33 w7 v' (ys ++ [.slice a9 ml c9])) := Lib.hid (OwnV.snoc hown)
                  have HF7 : Hid (New wo2 w7) := Lib.hid ((Fr.alloc HF6.out _).grown hgrow fun k ek => .inr (HOy6.out.lt k ek).1)
                  have HY7 : Hid (ElsP (OwnT 0 w7) (ys ++ [.slice a9 ml c9]) (rs ++ [m])) := Lib.hid (ElsP.snoc (HY6.out.mono fun _ _ h => ownT_kept (by decide) h HOy6.out hgrow) (ownT_kept (by decide) HV6.out HOy6.out hgrow))
                  clear hown hgrow
                  go_wp2
                  go_roundw
                  case rel => exact ⟨j + 1, _, _, by omega, by go_num, Lib.hid (by rw [List.length_append, HYl.out]; rfl), HO7, HY7, Lib.hid (HPr.out.snoc HM.out), HF7⟩
                  case measure => show n - ((j : Int) + 1).toNat < n - (j : Int).toNat; omega
                · obtain rfl : n = j := by omega
                  obtain ⟨a9, c9, hs9, _⟩ := HOy.out.sl
                  rw [HYl.out] at hs9
                  subst hs9
                  have HR9 : Hid (OwnTRow wr (.slice a9 n c9) rs) := Lib.hid ⟨ys, HOy.out.base0, HY.out⟩
                  have HO9 : Hid (OwnV wl.heap.size 41 wr _ vs) := Lib.hid (New.own HFi.out HO.out)
                  have HX9 : Hid (ElsP (OwnTRow wr) vs ms) := Lib.hid (HX.out.mono fun _ _ h => New.ownTRow HFi.out h)
                  have HF9 : Hid (New wl wr) := Lib.hid (HF.out.trans HFi.out)
                  clear HOy HY
                  go_wp2_with (at_builtin; refine wpList_append_own _ rfl _ _ 38 rfl wl.heap.size 41 i1 (.slice none 0 0) 1 24 Tryd.underlying38 hi1 hz10 hz11 hz12 rfl (by decide) _ vs.length vs rfl (OwnV.alloc HO9.out _) ⟨_, 0, none⟩ 1 1 [.slice a9 n c9] rfl rfl ?e2 ?e3 ?e4 ?e5 ?e6 ?_)
                  case e2 => exact cell_one_new _ _ _
                  case e3 => intro u hu; rw [List.mem_singleton] at hu; subst hu; rfl
                  case e4 => have := HVl.out; unfold maxLen; omega
                  case e5 => have := HVl.out; omega
                  case e6 => have := HF9.out.size; simp; omega
                  intro v' w7 hown hgrow _
                  have HO7 : Hid (OwnV wl.heap.size 41 w7 v' (vs ++ [.slice a9 n c9])) := Lib.hid (OwnV.snoc hown)
                  have HF7 : Hid (New wl w7) := Lib.hid ((Fr.alloc HF9.out _).grown hgrow fun k ek => .inr (HO9.out.lt k ek).1)
                  have HX7 : Hid (ElsP (OwnTRow w7) (vs ++ [.slice a9 n c9]) (ms ++ [rs])) := Lib.hid (ElsP.snoc (HX9.out.mono fun _ _ h => h.kept HO9.out hgrow) (HR9.out.kept HO9.out hgrow))
                  clear hown hgrow
                  go_wp2
                  go_roundw
                  case rel => exact ⟨r + 1, _, _, by omega, by go_num, Lib.hid (by rw [List.length_append, HVl.out]; rfl), HO7, HX7, Lib.hid (HP.out.snoc HPr.out), HF7⟩
                  case measure => show n - ((r : Int) + 1).toNat < n - (r : Int).toNat; omega
            · obtain rfl : n = r := by omega
              go_wp2_with fail
              go_ret2
              exact ⟨_, ms, rfl, ⟨vs, HO.out.sl, HX.out.mono fun _ _ h => h.rowT⟩, HB.out.new.trans HF.out, by rw [← HL.out, ← HT.out]; exact HP.out⟩
end Go.Proofs.YtdelekkbkpldjaaDoor
