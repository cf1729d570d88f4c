/- Walks: gauss.Build, at what Gauss tells. -/
import Derived.Test.YtgjmjbgicfkojaaW54
namespace Go.Proofs.Ytgjmjbgicfkojaa
open Go.RowKit

theorem offs_le_all (S : List (List Nat)) (i : Nat) : Kn.offs S i ≤ S.flatten.length := by
  have e : S.flatten = (S.take i).flatten ++ (S.drop i).flatten := by rw [← List.flatten_append, List.take_append_drop]
  rw [e, List.length_append]
  exact Nat.le_add_right _ _
def GaveBlt (X : List Kn.Cr) (L : Int) (w : World) (e : Ending) (w' : World) : Prop :=
  ∃ sc, e = .returned (.tuple #[.agg #[sc, .int .i64 L], .int .i64 0]) ∧ w'.ownsRow w.heap.size 42 5 sc X.length (crCells (Kn.builtL X)) ∧ New w w'
set_option maxRecDepth 100000 in
set_option maxHeartbeats 4000000 in
theorem gbuild_any (n np c1 : Nat) (a1 p2 : Option Addr) (cp : Nat) (X : List Kn.Cr) (L : Int) (w : World) (hv : Rows OwnVs 0 72 w (.slice a1 np c1) (visL X)) (hp : w.ownsRow 0 4 1 (.slice p2 n cp) n (plusL X)) (hX : Kn.Ok X) (hn : n = X.length) (hnp : np = (Kn.strandsL X).length) (hl : n ≤ 16) (l1 : 0 ≤ L) (l2 : L ≤ 16) (l3 : ¬ ((n : Int) + L = 0)) :
    Calls Try.prog 14 #[.slice a1 np c1, .slice p2 n cp, .int .i64 L] w (GaveBlt X L w) := by
  obtain ⟨m, hm⟩ : ∃ m, m = Kn.nArcs X := ⟨_, rfl⟩
  have hm32 : m ≤ 32 := by rw [hm]; unfold Kn.nArcs; omega
  have HM := Lib.hid hm
  have HX := Lib.hid hX
  have HN := Lib.hid hn
  have HNP := Lib.hid hnp
  have hnp32 : np ≤ 32 := by have := HNP.out; have := strands_few X; omega
  have HV := Lib.hid hv
  have HP := Lib.hid hp
  clear hv hX hm hn hnp hp
  have hmk := make75 n (by omega)
  go_enter Try.func14, Try.ntmps14
  go_wp2_with fail
  refine (check_any n np c1 a1 p2 cp X L _ (HV.out.new ((Fr.refl _ w).alloc _) fun _ _ hn => ((Fr.refl (fun _ => False) w).alloc _).owns hn fun _ _ x => x) HX.out HN.out HNP.out hl l1 l2 l3).mono ?_
  rintro e w2 ⟨rfl, hF⟩
  have HN2 : Hid (New w w2) := Lib.hid (((Fr.refl _ w).alloc _).trans hF)
  have HRS := Lib.hid (hF.blk (heap_alloc_new w (.cells #[.slice none 0 0, .int .i64 0] 24)) fun x => x)
  clear hF l3
  go_wp2_with fail
  go_cut [9, 10] (fun s9 s10 wx => Hid (Mid75 w w2 X n s9 s10 wx))
  case first =>
    go_region_held3 (fun _ => True) (trivial) (first | fail)
    all_goals
      go_wp2_with fail
      go_meet
      refine Lib.hid ?_
      first
        | exact mid75 HN.out HN2.out HRS.out (.inl ⟨rfl, rfl⟩)
        | exact mid75 HN.out HN2.out HRS.out (.inr ⟨rfl, rfl⟩)
        | exact (mid75 HN.out HN2.out HRS.out (.inl ⟨rfl, rfl⟩)).drew
        | exact (mid75 HN.out HN2.out HRS.out (.inr ⟨rfl, rfl⟩)).drew
  case rest =>
  obtain ⟨bb, ab, rfl, rfl, hi, hf3⟩ := Hid.out hcut
  obtain ⟨w3, rfl⟩ : ∃ w2, w2 = wc := ⟨_, rfl⟩
  have HI0 : Hid (BlI w w3 bb ab X (Kn.offs (Kn.strandsL X) 0)) := Lib.hid (by rw [Kn.offs_zero]; exact hi)
  have HN3 := Lib.hid (HN2.out.trans hf3)
  clear hcut hi hf3 HN2 HRS
  go_wp2
  go_loopw [11, 36] (fun f i wr => ∃ (q F : Nat), q ≤ np ∧ i = .int .i64 q ∧ f = .int .i64 F ∧ Hid (F = Kn.offs (Kn.strandsL X) q + 1) ∧ F ≤ 40 ∧ Hid (BlI w wr bb ab X (Kn.offs (Kn.strandsL X) q))) (fun _ i _ => np - (intOf i).toNat)
  case atStart => exact ⟨0, 1, by omega, rfl, rfl, Lib.hid (by rw [Kn.offs_zero]), by omega, HI0⟩
  case round =>
    obtain ⟨q, F, hq, rfl, rfl, HF, hF40, HI⟩ := hrel
    by_cases hlt : q < np
    · have hqP : q < (Kn.strandsL X).length := by have := HNP.out; omega
      have hrows := HV.out.new HI.out.new fun _ _ hn => HI.out.new.owns hn fun _ _ x => x
      obtain ⟨g, c, u, he, hcell, hown⟩ := hrows.at (i := q) (by rw [visL_len]; exact hqP)
      rw [visL_len, ← HNP.out] at he
      cases he
      rw [visL_at hqP] at hown
      obtain ⟨a2, c2, rfl⟩ := OwnVs.sl hown
      obtain ⟨fl, HFL⟩ : ∃ m, Hid (m = (Kn.strandsL X)[q].length) := ⟨_, Lib.hid rfl⟩
      rw [List.length_map, ← HFL.out] at hcell hown
      have i1 : (0 : Int) ≤ (q : Int) := by omega
      have i2 : (q : Int) < (np : Int) := by omega
      have hfl : fl ≤ 32 := by have := part_few HX.out hqP; have := HFL.out; have := HM.out; omega
      have hfl0 : 0 < fl := by rw [HFL.out]; exact List.length_pos_iff.2 (Kn.strands_ne X _ (List.getElem_mem hqP))
      have HOW := Lib.hid hown
      clear hown hrows
      go_wp2
      clear hcell
      obtain ⟨wo, rfl⟩ : ∃ wo, wo = wr := ⟨_, rfl⟩
      go_loopw [42] (fun i wr => ∃ k : Nat, k ≤ fl ∧ i = .int .i64 k ∧ Hid (BlI w wr bb ab X (Kn.offs (Kn.strandsL X) q + k)) ∧ Hid (OwnVs wr (.slice a2 fl c2) ((Kn.strandsL X)[q].map (visA X)))) (fun i _ => fl - (intOf i).toNat)
      case atStart => exact ⟨0, by omega, rfl, HI, HOW⟩
      case round =>
        obtain ⟨k, hk, rfl, HIk, HOk⟩ := hrel
        by_cases hkf : k < fl
        · have hkF : k < (Kn.strandsL X)[q].length := by have := HFL.out; omega
          obtain ⟨g3, c3, he3, hc3, hd3⟩ := HOk.out.at (i := k) (by rw [List.length_map]; exact hkF)
          rw [List.length_map, ← HFL.out] at he3
          cases he3
          simp only [List.getElem_map] at hc3 hd3
          rw [vis_at hqP hkF] at hc3 hd3
          have ht := time_lt HX.out hqP hkF
          have hnx := Kn.arcV_next HX.out hqP hkF
          have hpc := Kn.vis_lt HX.out ht
          obtain ⟨pc, o, hp⟩ : ∃ pc o, Kn.vis X (Kn.offs (Kn.strandsL X) q + k) = (pc, o) := ⟨_, _, rfl⟩
          rw [hp] at hc3 hd3 hnx hpc
          simp only at hc3 hd3 hnx hpc
          rw [← HN.out] at hpc
          obtain ⟨r, HR⟩ : ∃ r, Hid (r = (k + 1) % fl) := ⟨_, Lib.hid rfl⟩
          have hr32 : r ≤ 32 := by have := Nat.mod_lt (k + 1) hfl0; rw [HR.out]; omega
          have htm : ((k : Int) + 1).tmod (fl : Int) = (r : Int) := by rw [HR.out, Int.tmod_eq_emod_of_nonneg (by omega), Int.natCast_emod, Int.natCast_add]; rfl
          have HNX : Hid (Kn.arcV X pc o 1 = F + r) := Lib.hid (by rw [hnx, HF.out, HR.out, HFL.out])
          have HPUT : Hid (∀ wx, New wr wx → BlI w ((wx.setCell ⟨sel o bb ab, pc * 2, none⟩ (.int .i64 ((F : Int) + (k : Int)))).setCell ⟨sel o bb ab, pc * 2 + 1, none⟩ (.int .i64 ((F : Int) + (r : Int)))) bb ab X (Kn.offs (Kn.strandsL X) q + k + 1) ∧ OwnVs ((wx.setCell ⟨sel o bb ab, pc * 2, none⟩ (.int .i64 ((F : Int) + (k : Int)))).setCell ⟨sel o bb ab, pc * 2 + 1, none⟩ (.int .i64 ((F : Int) + (r : Int)))) (.slice (some ⟨g3, 0, none⟩) fl c2) ((Kn.strandsL X)[q].map (visA X))) := Lib.hid fun wx hw => by
            have h1 := (HIk.out.nw hw).put HX.out ht hp (f := F + k) (r := F + r) (by rw [HF.out]; omega) HNX.out
            simp only [Int.natCast_add] at h1
            have h2 : OwnVs wx (.slice (some ⟨g3, 0, none⟩) fl c2) ((Kn.strandsL X)[q].map (visA X)) := hw.owns HOk.out fun _ _ x => x
            exact ⟨h1.1, h1.2.owns h2 (own_ne h2 ((HIk.out.nw hw).row o) (by decide))⟩
          have hr2 := row_two ((HIk.out.nw (((Fr.refl _ wr).alloc (.cells #[.int .i64 pc, .bool o] 74)).alloc (.cells #[.int .i64 ((F : Int) + (k : Int)), .int .i64 ((F : Int) + (r : Int))] 75))).row o) (c := pc) (by have := HN.out; omega)
          have i3 : (0 : Int) ≤ (k : Int) := by omega
          have i4 : (k : Int) < (fl : Int) := by omega
          have i5 : (0 : Int) ≤ (pc : Int) := by omega
          have i6 : (pc : Int) < (n : Int) := by omega
          have i7 : ¬ (fl : Int) = 0 := by omega
          clear hp ht hnx
          have HN9 : Hid (New wr ((wr.alloc (.cells #[.int .i64 pc, .bool o] 74)).alloc (.cells #[.int .i64 ((F : Int) + (k : Int)), .int .i64 ((F : Int) + (r : Int))] 75))) := Lib.hid (((Fr.refl _ wr).alloc _).alloc _)
          obtain ⟨f1, f2, f3, f4⟩ := hr2
          cases o
          · simp only [sel, Bool.false_eq_true, if_false] at f1 f2 f3 f4 HPUT
            go_wp2
            go_roundw
            case rel =>
              have h := HPUT.out _ HN9.out
              exact ⟨k + 1, by omega, by go_num, Lib.hid h.1, Lib.hid h.2⟩
            case measure => simp [intOf]; omega
          · simp only [sel, if_true] at f1 f2 f3 f4 HPUT
            go_wp2
            go_roundw
            case rel =>
              have h := HPUT.out _ HN9.out
              exact ⟨k + 1, by omega, by go_num, Lib.hid h.1, Lib.hid h.2⟩
            case measure => simp [intOf]; omega
        · obtain rfl : k = fl := by omega
          have HST : Hid (Kn.offs (Kn.strandsL X) q + k = Kn.offs (Kn.strandsL X) (q + 1)) := Lib.hid (by rw [Kn.offs_succ hqP, HFL.out])
          go_wp2
          go_roundw
          case rel => exact ⟨q + 1, F + k, by omega, by go_num, by go_num, Lib.hid (by rw [← HST.out, HF.out]; omega), (by have h1 := offs_le_all (Kn.strandsL X) (q + 1); rw [Kn.flat_len HX.out, ← HM.out, ← HST.out] at h1; have := HF.out; omega), Lib.hid (by rw [← HST.out]; exact HIk.out)⟩
          case measure => simp [intOf]; omega
    · obtain rfl : q = np := by omega
      have HJ0 : Hid (BlJ w (wr.alloc (.cells #[.slice none 0 0, .int .i64 L] 24)) bb ab wr.heap.size X L 0 (.slice none 0 0)) := Lib.hid (by
        have hi := HI.out
        rw [HNP.out, Kn.offs_all, Kn.flat_len HX.out] at hi
        exact ⟨hi.nw ((Fr.refl _ wr).alloc _), (Array.getElem?_eq_some_iff.1 hi.res).1, heap_alloc_new _ _, by rw [List.take_zero]; exact ⟨rfl, .inl ⟨rfl, rfl⟩⟩⟩)
      go_wp2
      obtain ⟨D, HD⟩ : ∃ D, Hid (D = wr.heap.size) := ⟨_, Lib.hid rfl⟩
      rw [← HD.out] at HJ0 ⊢
      clear HI
      obtain ⟨wo, HWO⟩ : ∃ wo, wo = wr.alloc (.cells #[.slice none 0 0, .int .i64 L] 24) := ⟨_, rfl⟩
      rw [← HWO] at HJ0 ⊢
      clear HWO HD
      go_loopw [80] (fun i wr => ∃ (k : Nat) (sc : Value), k ≤ n ∧ i = .int .i64 k ∧ Hid (BlJ w wr bb ab D X L k sc)) (fun i _ => n - (intOf i).toNat)
      case atStart => exact ⟨0, _, by omega, rfl, HJ0⟩
      case round =>
        obtain ⟨k, sc, hk, rfl, HJ⟩ := hrel
        by_cases hkn : k < n
        · have hkX : k < X.length := by have := HN.out; omega
          obtain ⟨a9, c9, e9, _, h9⟩ := own_shape (HJ.out.i.new.owns HP.out fun _ _ x => x)
          cases e9
          obtain ⟨g9, rfl, _, h9⟩ := h9 (by omega)
          have hb := h9 k (by rw [plusL_len]; exact hkX)
          rw [plusL_at] at hb
          obtain ⟨xp, HXP⟩ : ∃ xp, Hid (xp = (Kn.cr X k).p) := ⟨_, Lib.hid rfl⟩
          rw [← HXP.out] at hb
          have i1 : (0 : Int) ≤ (k : Int) := by omega
          have i2 : (k : Int) < (n : Int) := by omega
          clear h9
          go_wp2_with fail
          obtain ⟨z0, HZ0⟩ : ∃ z, Hid (z = Kn.arcV X k false 0) := ⟨_, Lib.hid rfl⟩
          obtain ⟨z1, HZ1⟩ : ∃ z, Hid (z = Kn.arcV X k false 1) := ⟨_, Lib.hid rfl⟩
          obtain ⟨y0, HY0⟩ : ∃ z, Hid (z = Kn.arcV X k true 0) := ⟨_, Lib.hid rfl⟩
          obtain ⟨y1, HY1⟩ : ∃ z, Hid (z = Kn.arcV X k true 1) := ⟨_, Lib.hid rfl⟩
          obtain ⟨va, vb, vc, vd, vp, HMK⟩ : ∃ va vb vc vd vp, Hid (Kn.mkCr (z0 : Nat) (z1 : Nat) (y0 : Nat) (y1 : Nat) xp = ⟨va, vb, vc, vd, vp⟩) := ⟨_, _, _, _, _, Lib.hid rfl⟩
          have HMK2 : Hid (Kn.mkCr (Kn.arcV X k false 0 : Nat) (Kn.arcV X k false 1 : Nat) (Kn.arcV X k true 0 : Nat) (Kn.arcV X k true 1 : Nat) (Kn.cr X k).p = ⟨va, vb, vc, vd, vp⟩) := Lib.hid (by rw [← HZ0.out, ← HZ1.out, ← HY0.out, ← HY1.out, ← HXP.out]; exact HMK.out)
          have FZ := Lib.hid fun wz (h : BlI w wz bb ab X (Kn.nArcs X)) => h.four HX.out hkX HZ0.out HZ1.out HY0.out HY1.out
          obtain ⟨I5, hi5, hz50, hz51, hz52⟩ := info_parts Try.info42
          have HR0 := Lib.hid (HJ.out.nw (Fr.refl _ wr).drew)
          have hS0 := FZ.out _ HR0.out.i
          refine wp_region_held_drew (S := fun wz => wz.cell? ⟨bb, k * 2, none⟩ = some (.int .i64 (z0 : Nat)) ∧ wz.cell? ⟨bb, k * 2 + 1, none⟩ = some (.int .i64 (z1 : Nat)) ∧ wz.cell? ⟨ab, k * 2, none⟩ = some (.int .i64 (y0 : Nat)) ∧ wz.cell? ⟨ab, k * 2 + 1, none⟩ = some (.int .i64 (y1 : Nat))) (by kernel_rfl) hS0 (fun hHeld => ?_)
          clear hS0 hb
          generalize wr.drew = r0 at hHeld HR0 ⊢
          obtain ⟨a3, c3, rfl, _⟩ := own_shape2 HR0.out.own
          -- BEGIN23
          refine' wpAnyH_take (i := 0) (v := _) rfl (by kernel_rfl) (by kernel_rfl) (by kernel_rfl) (fun _ _ _ h => h) (Or.inl ⟨by rfl, ?hy⟩) (by assumption) ?rest
          case hy => (intro w' hSw; (try dsimp only at hSw); go_simp <;> with_reducible rfl)
          case rest =>
          simp only [Act.put, List.getElem_toArray, List.getElem_cons_zero, List.getElem_cons_succ, List.setIfInBounds_toArray, List.set_cons_zero, List.set_cons_succ]
          refine' wpAnyH_take (i := 2) (v := _) rfl (by kernel_rfl) (by kernel_rfl) (by kernel_rfl) (fun _ _ _ h => h) (Or.inl ⟨by rfl, ?hy⟩) (by assumption) ?rest
          case hy => (intro w' hSw; (try dsimp only at hSw); go_simp <;> with_reducible rfl)
          case rest =>
          simp only [Act.put, List.getElem_toArray, List.getElem_cons_zero, List.getElem_cons_succ, List.setIfInBounds_toArray, List.set_cons_zero, List.set_cons_succ]
          refine' wpAnyH_take (i := 3) (v := _) rfl (by kernel_rfl) (by kernel_rfl) (by kernel_rfl) (fun _ _ _ h => h) (Or.inl ⟨by rfl, ?hy⟩) (by assumption) ?rest
          case hy => (intro w' hSw; (try dsimp only at hSw); go_simp <;> with_reducible rfl)
          case rest =>
          simp only [Act.put, List.getElem_toArray, List.getElem_cons_zero, List.getElem_cons_succ, List.setIfInBounds_toArray, List.set_cons_zero, List.set_cons_succ]
          refine' wpAnyH_take (i := 4) (v := _) rfl (by kernel_rfl) (by kernel_rfl) (by kernel_rfl) (fun _ _ _ h => h) (Or.inl ⟨by rfl, ?hy⟩) (by assumption) ?rest
          case hy => (intro w' hSw; (try dsimp only at hSw); go_simp <;> with_reducible rfl)
          case rest =>
          simp only [Act.put, List.getElem_toArray, List.getElem_cons_zero, List.getElem_cons_succ, List.setIfInBounds_toArray, List.set_cons_zero, List.set_cons_succ]
          refine' wpAnyH_take (i := 5) (v := _) rfl (by kernel_rfl) (by kernel_rfl) (by kernel_rfl) (fun _ _ _ h => h) (Or.inl ⟨by rfl, ?hy⟩) (by assumption) ?rest
          case hy => (intro w' hSw; (try dsimp only at hSw); go_simp <;> with_reducible rfl)
          case rest =>
          simp only [Act.put, List.getElem_toArray, List.getElem_cons_zero, List.getElem_cons_succ, List.setIfInBounds_toArray, List.set_cons_zero, List.set_cons_succ]
          refine' wpAnyH_take (i := 6) (v := _) rfl (by kernel_rfl) (by kernel_rfl) (by kernel_rfl) (fun _ _ _ h => h) (Or.inl ⟨by rfl, ?hy⟩) (by assumption) ?rest
          case hy => (intro w' hSw; (try dsimp only at hSw); go_simp <;> with_reducible rfl)
          case rest =>
          simp only [Act.put, List.getElem_toArray, List.getElem_cons_zero, List.getElem_cons_succ, List.setIfInBounds_toArray, List.set_cons_zero, List.set_cons_succ]
          refine' wpAnyH_take (i := 7) (v := _) rfl (by kernel_rfl) (by kernel_rfl) (by kernel_rfl) (fun _ _ _ h => h) (Or.inl ⟨by rfl, ?hy⟩) (by assumption) ?rest
          case hy => (intro w' hSw; (try dsimp only at hSw); go_simp <;> with_reducible rfl)
          case rest =>
          simp only [Act.put, List.getElem_toArray, List.getElem_cons_zero, List.getElem_cons_succ, List.setIfInBounds_toArray, List.set_cons_zero, List.set_cons_succ]
          refine' wpAnyH_take (i := 8) (v := _) rfl (by kernel_rfl) (by kernel_rfl) (by kernel_rfl) (fun _ _ _ h => h) (Or.inl ⟨by rfl, ?hy⟩) (by assumption) ?rest
          case hy => (intro w' hSw; (try dsimp only at hSw); go_simp <;> with_reducible rfl)
          case rest =>
          simp only [Act.put, List.getElem_toArray, List.getElem_cons_zero, List.getElem_cons_succ, List.setIfInBounds_toArray, List.set_cons_zero, List.set_cons_succ]
          refine' wpAnyH_take (i := 9) (v := _) rfl (by kernel_rfl) (by kernel_rfl) (by kernel_rfl) (fun _ _ _ h => h) (Or.inl ⟨by rfl, ?hy⟩) (by assumption) ?rest
          case hy => (intro w' hSw; (try dsimp only at hSw); go_simp <;> with_reducible rfl)
          case rest =>
          simp only [Act.put, List.getElem_toArray, List.getElem_cons_zero, List.getElem_cons_succ, List.setIfInBounds_toArray, List.set_cons_zero, List.set_cons_succ]
          refine' wpAnyH_take (i := 10) (v := _) rfl (by kernel_rfl) (by kernel_rfl) (by kernel_rfl) (fun _ _ _ h => h) (Or.inl ⟨by rfl, ?hy⟩) (by assumption) ?rest
          case hy => (intro w' hSw; (try dsimp only at hSw); go_simp <;> with_reducible rfl)
          case rest =>
          simp only [Act.put, List.getElem_toArray, List.getElem_cons_zero, List.getElem_cons_succ, List.setIfInBounds_toArray, List.set_cons_zero, List.set_cons_succ]
          refine wpAnyH_ready (rs := [1, 11]) (by kernel_rfl) (by simp) ?_
          refine AllReadyH.cons rfl (fun K hK => ?_) (AllReadyH.cons rfl (fun K hK => ?_) AllReadyH.nil)
          · skip
            obtain ⟨d0, _, _, _⟩ := box2_c HR0.out.box
            (try simp only [List.getElem_toArray, List.getElem_cons_zero, List.getElem_cons_succ])
            go_simp
            refine hK.out _ _ (FZ.out _ HR0.out.i) (fun hHeld => ?_)
            clear hK K
            (try simp only [Act.put, List.getElem_toArray, List.getElem_cons_zero, List.getElem_cons_succ, List.setIfInBounds_toArray, List.set_cons_zero, List.set_cons_succ])
            refine wpAnyH_ready (rs := [11]) (by kernel_rfl) (by simp) ?_
            refine AllReadyH.cons rfl (fun K hK => ?_) AllReadyH.nil
            (try simp only [List.getElem_toArray, List.getElem_cons_zero, List.getElem_cons_succ])
            go_simp
            refine (make_lit (z0 : Nat) (z1 : Nat) (y0 : Nat) (y1 : Nat) xp HMK.out r0).mono ?_
            rintro e r1 ⟨rfl, hF⟩
            have HR1 := Lib.hid (HR0.out.nw hF)
            clear hF
            go_wp2_with fail
            refine hK.out _ _ (FZ.out _ HR1.out.i) (fun hHeld => ?_)
            clear hK K
            (try simp only [Act.put, List.getElem_toArray, List.getElem_cons_zero, List.getElem_cons_succ, List.setIfInBounds_toArray, List.set_cons_zero, List.set_cons_succ])
            refine wpAnyH_ready (rs := [12]) (by kernel_rfl) (by simp) ?_
            refine AllReadyH.cons rfl (fun K hK => ?_) AllReadyH.nil
            (try simp only [List.getElem_toArray, List.getElem_cons_zero, List.getElem_cons_succ])
            go_simp
            have HR2 := Lib.hid (HR1.out.nw ((Fr.refl _ r1).alloc (.cells #[.int .i64 va, .int .i64 vb, .int .i64 vc, .int .i64 vd, .bool vp] 42)))
            refine hK.out _ _ (FZ.out _ HR2.out.i) (fun hHeld => ?_)
            clear hK K
            (try simp only [Act.put, List.getElem_toArray, List.getElem_cons_zero, List.getElem_cons_succ, List.setIfInBounds_toArray, List.set_cons_zero, List.set_cons_succ])
            refine wpAnyH_ready (rs := [13]) (by kernel_rfl) (by simp) ?_
            refine AllReadyH.cons rfl (fun K hK => ?_) AllReadyH.nil
            (try simp only [List.getElem_toArray, List.getElem_cons_zero, List.getElem_cons_succ])
            have HOV := Lib.hid HR1.out.own
            rw [if_pos (by rfl)]
            refine wp_append_lies _ _ _ 22 rfl w.heap.size 42 I5 (.agg #[.int .i64 0, .int .i64 0, .int .i64 0, .int .i64 0, .bool false]) 5 40 Try.underlying22 hi5 hz50 hz51 hz52 rfl (by decide) _ k _ rfl (World.ownsRow.alloc HOV.out _) ⟨r1.heap.size, 0, none⟩ 1 1 [.int .i64 va, .int .i64 vb, .int .i64 vc, .int .i64 vd, .bool vp] rfl rfl (five_cells rfl) (one_five _ _ _ _ _) (by omega) (by unfold maxLen; omega) (by omega) (by have := HR1.out.i.new.size; simp only [World.size_alloc]; omega) _ rfl ?_
            intro g cap w9 hown hgrow _ _
            obtain ⟨hi9, hbD⟩ := HR1.out.app hown hgrow
            have HI9 := Lib.hid hi9
            have HJ9 := Lib.hid (HR1.out.end_ hkX HMK2.out hown hgrow)
            obtain ⟨f0, _, f2, _⟩ := box2_c hbD
            clear hown hgrow hbD hi9
            refine hK.out _ _ (FZ.out _ HI9.out) (fun hHeld => ?_)
            clear hK K
            (try simp only [Act.put, List.getElem_toArray, List.getElem_cons_zero, List.getElem_cons_succ, List.setIfInBounds_toArray, List.set_cons_zero, List.set_cons_succ])
            refine' wpAnyH_take (i := 14) (v := _) rfl (by kernel_rfl) (by kernel_rfl) (by kernel_rfl) (fun _ _ _ h => h) (Or.inl ⟨by rfl, ?hy⟩) (by assumption) ?rest
            case hy => (intro w' hSw; (try dsimp only at hSw); go_simp <;> with_reducible rfl)
            case rest =>
            simp only [Act.put, List.getElem_toArray, List.getElem_cons_zero, List.getElem_cons_succ, List.setIfInBounds_toArray, List.set_cons_zero, List.set_cons_succ]
            refine wpAnyH_ready (rs := [15]) (by kernel_rfl) (by simp) ?_
            refine AllReadyH.cons rfl (fun K hK => ?_) AllReadyH.nil
            (try simp only [List.getElem_toArray, List.getElem_cons_zero, List.getElem_cons_succ])
            go_simp
            refine hK.out _ _ (FZ.out _ HJ9.out.i) (fun hHeld => ?_)
            clear hK K
            (try simp only [Act.put, List.getElem_toArray, List.getElem_cons_zero, List.getElem_cons_succ, List.setIfInBounds_toArray, List.set_cons_zero, List.set_cons_succ])
            refine wpAnyH_done (by kernel_rfl) ?_ _
            go_wp2
            go_roundw
            case rel => exact ⟨k + 1, _, by omega, by go_num, HJ9⟩
            case measure => simp [intOf]; omega
          · skip
            (try simp only [List.getElem_toArray, List.getElem_cons_zero, List.getElem_cons_succ])
            go_simp
            refine (make_lit (z0 : Nat) (z1 : Nat) (y0 : Nat) (y1 : Nat) xp HMK.out r0).mono ?_
            rintro e r1 ⟨rfl, hF⟩
            have HR1 := Lib.hid (HR0.out.nw hF)
            clear hF
            go_wp2_with fail
            refine hK.out _ _ (FZ.out _ HR1.out.i) (fun hHeld => ?_)
            clear hK K
            (try simp only [Act.put, List.getElem_toArray, List.getElem_cons_zero, List.getElem_cons_succ, List.setIfInBounds_toArray, List.set_cons_zero, List.set_cons_succ])
            refine wpAnyH_ready (rs := [1, 12]) (by kernel_rfl) (by simp) ?_
            refine AllReadyH.cons rfl (fun K hK => ?_) (AllReadyH.cons rfl (fun K hK => ?_) AllReadyH.nil)
            · skip
              obtain ⟨d0, _, _, _⟩ := box2_c HR1.out.box
              (try simp only [List.getElem_toArray, List.getElem_cons_zero, List.getElem_cons_succ])
              go_simp
              refine hK.out _ _ (FZ.out _ HR1.out.i) (fun hHeld => ?_)
              clear hK K
              (try simp only [Act.put, List.getElem_toArray, List.getElem_cons_zero, List.getElem_cons_succ, List.setIfInBounds_toArray, List.set_cons_zero, List.set_cons_succ])
              refine wpAnyH_ready (rs := [12]) (by kernel_rfl) (by simp) ?_
              refine AllReadyH.cons rfl (fun K hK => ?_) AllReadyH.nil
              (try simp only [List.getElem_toArray, List.getElem_cons_zero, List.getElem_cons_succ])
              go_simp
              have HR2 := Lib.hid (HR1.out.nw ((Fr.refl _ r1).alloc (.cells #[.int .i64 va, .int .i64 vb, .int .i64 vc, .int .i64 vd, .bool vp] 42)))
              refine hK.out _ _ (FZ.out _ HR2.out.i) (fun hHeld => ?_)
              clear hK K
              (try simp only [Act.put, List.getElem_toArray, List.getElem_cons_zero, List.getElem_cons_succ, List.setIfInBounds_toArray, List.set_cons_zero, List.set_cons_succ])
              refine wpAnyH_ready (rs := [13]) (by kernel_rfl) (by simp) ?_
              refine AllReadyH.cons rfl (fun K hK => ?_) AllReadyH.nil
              (try simp only [List.getElem_toArray, List.getElem_cons_zero, List.getElem_cons_succ])
              have HOV := Lib.hid HR1.out.own
              rw [if_pos (by rfl)]
              refine wp_append_lies _ _ _ 22 rfl w.heap.size 42 I5 (.agg #[.int .i64 0, .int .i64 0, .int .i64 0, .int .i64 0, .bool false]) 5 40 Try.underlying22 hi5 hz50 hz51 hz52 rfl (by decide) _ k _ rfl (World.ownsRow.alloc HOV.out _) ⟨r1.heap.size, 0, none⟩ 1 1 [.int .i64 va, .int .i64 vb, .int .i64 vc, .int .i64 vd, .bool vp] rfl rfl (five_cells rfl) (one_five _ _ _ _ _) (by omega) (by unfold maxLen; omega) (by omega) (by have := HR1.out.i.new.size; simp only [World.size_alloc]; omega) _ rfl ?_
              intro g cap w9 hown hgrow _ _
              obtain ⟨hi9, hbD⟩ := HR1.out.app hown hgrow
              have HI9 := Lib.hid hi9
              have HJ9 := Lib.hid (HR1.out.end_ hkX HMK2.out hown hgrow)
              obtain ⟨f0, _, f2, _⟩ := box2_c hbD
              clear hown hgrow hbD hi9
              refine hK.out _ _ (FZ.out _ HI9.out) (fun hHeld => ?_)
              clear hK K
              (try simp only [Act.put, List.getElem_toArray, List.getElem_cons_zero, List.getElem_cons_succ, List.setIfInBounds_toArray, List.set_cons_zero, List.set_cons_succ])
              refine' wpAnyH_take (i := 14) (v := _) rfl (by kernel_rfl) (by kernel_rfl) (by kernel_rfl) (fun _ _ _ h => h) (Or.inl ⟨by rfl, ?hy⟩) (by assumption) ?rest
              case hy => (intro w' hSw; (try dsimp only at hSw); go_simp <;> with_reducible rfl)
              case rest =>
              simp only [Act.put, List.getElem_toArray, List.getElem_cons_zero, List.getElem_cons_succ, List.setIfInBounds_toArray, List.set_cons_zero, List.set_cons_succ]
              refine wpAnyH_ready (rs := [15]) (by kernel_rfl) (by simp) ?_
              refine AllReadyH.cons rfl (fun K hK => ?_) AllReadyH.nil
              (try simp only [List.getElem_toArray, List.getElem_cons_zero, List.getElem_cons_succ])
              go_simp
              refine hK.out _ _ (FZ.out _ HJ9.out.i) (fun hHeld => ?_)
              clear hK K
              (try simp only [Act.put, List.getElem_toArray, List.getElem_cons_zero, List.getElem_cons_succ, List.setIfInBounds_toArray, List.set_cons_zero, List.set_cons_succ])
              refine wpAnyH_done (by kernel_rfl) ?_ _
              go_wp2
              go_roundw
              case rel => exact ⟨k + 1, _, by omega, by go_num, HJ9⟩
              case measure => simp [intOf]; omega
            · skip
              (try simp only [List.getElem_toArray, List.getElem_cons_zero, List.getElem_cons_succ])
              go_simp
              have HR2 := Lib.hid (HR1.out.nw ((Fr.refl _ r1).alloc (.cells #[.int .i64 va, .int .i64 vb, .int .i64 vc, .int .i64 vd, .bool vp] 42)))
              refine hK.out _ _ (FZ.out _ HR2.out.i) (fun hHeld => ?_)
              clear hK K
              (try simp only [Act.put, List.getElem_toArray, List.getElem_cons_zero, List.getElem_cons_succ, List.setIfInBounds_toArray, List.set_cons_zero, List.set_cons_succ])
              refine wpAnyH_ready (rs := [1]) (by kernel_rfl) (by simp) ?_
              refine AllReadyH.cons rfl (fun K hK => ?_) AllReadyH.nil
              obtain ⟨d0, _, _, _⟩ := box2_c HR2.out.box
              (try simp only [List.getElem_toArray, List.getElem_cons_zero, List.getElem_cons_succ])
              go_simp
              refine hK.out _ _ (FZ.out _ HR2.out.i) (fun hHeld => ?_)
              clear hK K
              (try simp only [Act.put, List.getElem_toArray, List.getElem_cons_zero, List.getElem_cons_succ, List.setIfInBounds_toArray, List.set_cons_zero, List.set_cons_succ])
              refine wpAnyH_ready (rs := [13]) (by kernel_rfl) (by simp) ?_
              refine AllReadyH.cons rfl (fun K hK => ?_) AllReadyH.nil
              (try simp only [List.getElem_toArray, List.getElem_cons_zero, List.getElem_cons_succ])
              have HOV := Lib.hid HR1.out.own
              rw [if_pos (by rfl)]
              refine wp_append_lies _ _ _ 22 rfl w.heap.size 42 I5 (.agg #[.int .i64 0, .int .i64 0, .int .i64 0, .int .i64 0, .bool false]) 5 40 Try.underlying22 hi5 hz50 hz51 hz52 rfl (by decide) _ k _ rfl (World.ownsRow.alloc HOV.out _) ⟨r1.heap.size, 0, none⟩ 1 1 [.int .i64 va, .int .i64 vb, .int .i64 vc, .int .i64 vd, .bool vp] rfl rfl (five_cells rfl) (one_five _ _ _ _ _) (by omega) (by unfold maxLen; omega) (by omega) (by have := HR1.out.i.new.size; simp only [World.size_alloc]; omega) _ rfl ?_
              intro g cap w9 hown hgrow _ _
              obtain ⟨hi9, hbD⟩ := HR1.out.app hown hgrow
              have HI9 := Lib.hid hi9
              have HJ9 := Lib.hid (HR1.out.end_ hkX HMK2.out hown hgrow)
              obtain ⟨f0, _, f2, _⟩ := box2_c hbD
              clear hown hgrow hbD hi9
              refine hK.out _ _ (FZ.out _ HI9.out) (fun hHeld => ?_)
              clear hK K
              (try simp only [Act.put, List.getElem_toArray, List.getElem_cons_zero, List.getElem_cons_succ, List.setIfInBounds_toArray, List.set_cons_zero, List.set_cons_succ])
              refine' wpAnyH_take (i := 14) (v := _) rfl (by kernel_rfl) (by kernel_rfl) (by kernel_rfl) (fun _ _ _ h => h) (Or.inl ⟨by rfl, ?hy⟩) (by assumption) ?rest
              case hy => (intro w' hSw; (try dsimp only at hSw); go_simp <;> with_reducible rfl)
              case rest =>
              simp only [Act.put, List.getElem_toArray, List.getElem_cons_zero, List.getElem_cons_succ, List.setIfInBounds_toArray, List.set_cons_zero, List.set_cons_succ]
              refine wpAnyH_ready (rs := [15]) (by kernel_rfl) (by simp) ?_
              refine AllReadyH.cons rfl (fun K hK => ?_) AllReadyH.nil
              (try simp only [List.getElem_toArray, List.getElem_cons_zero, List.getElem_cons_succ])
              go_simp
              refine hK.out _ _ (FZ.out _ HJ9.out.i) (fun hHeld => ?_)
              clear hK K
              (try simp only [Act.put, List.getElem_toArray, List.getElem_cons_zero, List.getElem_cons_succ, List.setIfInBounds_toArray, List.set_cons_zero, List.set_cons_succ])
              refine wpAnyH_done (by kernel_rfl) ?_ _
              go_wp2
              go_roundw
              case rel => exact ⟨k + 1, _, by omega, by go_num, HJ9⟩
              case measure => simp [intOf]; omega
          -- END23
        · obtain rfl : k = n := by omega
          obtain ⟨a3, c3, rfl, _⟩ := own_shape2 HJ.out.own
          obtain ⟨d0, d1, _, _⟩ := box2_c HJ.out.box
          obtain ⟨r0, r1, z0, z1⟩ := box2_c HJ.out.i.res
          have hb1 := (box2_set HJ.out.i.res (.slice a3 k c3)).1
          have hb2 := (box2_set hb1 (.int .i64 L)).2
          obtain ⟨_, e1, _, e2⟩ := box2_c hb1
          obtain ⟨m5, m6, _, _⟩ := box2_c hb2
          have HFIN : Hid (New w ((wr.setCell ⟨w.heap.size, 0, none⟩ (.slice a3 k c3)).setCell ⟨w.heap.size, 1, none⟩ (.int .i64 L))) := Lib.hid ((HJ.out.i.new.setCell (a := ⟨w.heap.size, 0, none⟩) (.inr (Nat.le_refl _)) _).setCell (a := ⟨w.heap.size, 1, none⟩) (.inr (Nat.le_refl _)) _)
          have HOWN : Hid (((wr.setCell ⟨w.heap.size, 0, none⟩ (.slice a3 k c3)).setCell ⟨w.heap.size, 1, none⟩ (.int .i64 L)).ownsRow w.heap.size 42 5 (.slice a3 k c3) X.length (crCells (Kn.builtL X))) := Lib.hid (by
            have h1 := HJ.out.own
            rw [List.take_of_length_le (by rw [Kn.builtL_len, HN.out]; exact Nat.le_refl _)] at h1
            have hF : Fr (fun k => k = w.heap.size) wr ((wr.setCell ⟨w.heap.size, 0, none⟩ (.slice a3 k c3)).setCell ⟨w.heap.size, 1, none⟩ (.int .i64 L)) := (Fr.setCell (S := fun k => k = w.heap.size) (Fr.refl _ wr) (a := ⟨w.heap.size, 0, none⟩) (.inl rfl) _).setCell (a := ⟨w.heap.size, 1, none⟩) (.inl rfl) _
            rw [← HN.out]
            exact hF.owns h1 fun j hj e => blk_not_own HJ.out.i.res h1 (by decide) (e ▸ hj))
          clear hb1 hb2
          go_wp2
          refine bodyPost_ret (v := .tuple #[.agg #[.slice a3 k c3, .int .i64 L], .int .i64 0]) ?_ rfl ?_
          · simp [results, Try.results14, go_sem, m5, m6]
          · exact ⟨_, rfl, HOWN.out, HFIN.out⟩
end Go.Proofs.Ytgjmjbgicfkojaa
