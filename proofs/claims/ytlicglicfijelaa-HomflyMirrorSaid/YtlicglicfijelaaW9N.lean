/- Walks: Next, Rings, Strands. -/
import Derived.Test.YtlicglicfijelaaW10
namespace Go.Proofs.Ytlicglicfijelaa
open Go.RowKit
set_option maxHeartbeats 1000000 in
theorem next_any (b a : Nat) (X : List Kn.Cr) (L : Int) (w : World) (h : ShAt w b X L) (hX : Kn.Ok X) (hl : X.length ≤ 16) (ha : Kn.isArc X a) :
    Calls Try.prog 52 #[.pointer (some ⟨b, 0, none⟩), .int .i64 a] w fun e w' => e = .returned (.int .i64 (Kn.nextA X a : Nat)) ∧ New w w' := by
  have hpl := hX.isPl_end (io := true) ha
  obtain ⟨pc, ps, hp⟩ : ∃ pc ps, Kn.endP X true a = (pc, ps) := ⟨_, _, rfl⟩
  rw [hp] at hpl
  obtain ⟨h1, h2⟩ := hpl
  simp only at h1 h2
  obtain ⟨n, bx, ox, cc, bi, bo, r⟩ := h.read (by omega)
  have hal : a < 2 * n + 1 := by have := ha.2; unfold Kn.nArcs at this; have := r.len; omega
  obtain ⟨g1, g2⟩ := r.pi a hal
  have hpi : Kn.inP X a = (pc, ps) := hp
  rw [hpi] at g1 g2
  simp only at g1 g2
  have g0 := r.c2
  have i1 : (0 : Int) ≤ (a : Int) := by omega
  have i2 : (a : Int) < 2 * (n : Int) + 1 := by omega
  obtain ⟨t, ht⟩ : ∃ t, t = (ps + 2) % 4 := ⟨_, rfl⟩
  have j1 : (0 : Int) ≤ (ps : Int) := by omega
  have j2 : (ps : Int) < 4 := by omega
  have z1 : ((ps : Int) + 2) % 4 = (t : Int) := by omega
  have z2 : ((ps : Int) + 2).tmod 4 = (t : Int) := by rw [Int.tmod_eq_emod_of_nonneg (by omega)]; exact z1
  have ht4 : t < 4 := by omega
  have hres : Hid (Kn.nextA X a = Kn.arcN X (pc, t)) := Lib.hid (by unfold Kn.nextA; rw [hp, ht])
  have HS := Lib.hid h
  have HX := Lib.hid hX
  have HA := Lib.hid h1
  have HR := Lib.hid r
  clear h hX hp hpi ht r ha h1
  go_enter Try.func52, Try.ntmps52
  go_wp2_with (go_at_call 68; refine (at_any b pc t X L _ (New.shAt ((Fr.refl _ _).alloc _) HS.out) HX.out hl HA.out ht4).mono ?_; rintro e w4 ⟨rfl, hF⟩; rw [← hres.out]; have HF := Lib.hid hF; clear hF)
  go_ret
  exact ⟨rfl, ((Fr.refl _ _).alloc _).trans HF.out⟩

set_option maxRecDepth 100000 in
set_option maxHeartbeats 4000000 in
theorem rings_any (b : Nat) (X : List Kn.Cr) (L : Int) (w : World) (h : ShAt w b X L) (hX : Kn.Ok X) (hl : X.length ≤ 16) :
    Calls Try.prog 51 #[.pointer (some ⟨b, 0, none⟩), .func (.func 52) #[.pointer (some ⟨b, 0, none⟩)] #[]] w (GaveRows (Kn.strandsL X) w) := by
  obtain ⟨m, hm⟩ : ∃ m, m = Kn.nArcs X := ⟨_, rfl⟩
  have hm32 : m ≤ 32 := by rw [hm]; unfold Kn.nArcs; omega
  have HM := Lib.hid hm
  have HS := Lib.hid h
  have HX := Lib.hid hX
  clear h hX hm
  have hmk : ∀ w, (Instr.makeSlice 122 (.int .i64 ((m : Int) + 1)) (.int .i64 ((m : Int) + 1))).run Try.prog w = .ok (.slice (some ⟨w.heap.size, 0, none⟩) (m + 1) (m + 1)) (w.alloc (.cells (madeCells #[.bool false] (m + 1)) 4)) := fun w => by
    have := run_make_row' (P := Try.prog) 122 4 (.bool false) 1 Try.underlying122 Try.info4 rfl .i64 .i64 (m + 1) (by omega) (by omega) w
    rwa [show (((m + 1 : Nat)) : Int) = (m : Int) + 1 by omega] at this
  obtain ⟨i0, hi, hz0, hz1, hz2⟩ := info_parts Try.info3
  obtain ⟨i1, hi1, hz10, hz11, hz12⟩ := info_parts Try.info80
  go_enter Try.func51, Try.ntmps51
  go_wp2_with (go_at_call 21; refine (arcsN' b m X L _ HS.out hl HM.out).mono ?_; rintro e w' ⟨rfl, rfl⟩)
  have H0 : Hid (RInv w (w.alloc (.cells (madeCells #[.bool false] (m + 1)) 4)) w.heap.size X 1 [] [] (.slice none 0 0)) := Lib.hid
    ⟨(Fr.refl _ _).alloc _, Nat.le_refl _, by rw [← HM.out]; exact marks_made w (m + 1), Rows.nil, by simp, (fun x hx => by cases hx), by rw [Nat.sub_self, List.drop_zero]; rfl⟩
  go_loopw [6, 7] (fun o i wr => ∃ (k : Nat) (seen : List Nat) (rs : List (List Nat)), 1 ≤ k ∧ k ≤ m + 1 ∧ i = .int .i64 k ∧ Hid (RInv w wr w.heap.size X k seen rs o)) (fun _ i _ => (m + 1) - (intOf i).toNat)
  case atStart => exact ⟨1, [], [], by omega, by omega, rfl, H0⟩
  case round =>
    obtain ⟨k, seen, rs, hk1, hk2, rfl, HI⟩ := hrel
    by_cases hkm : k ≤ m
    · have hcell := HI.out.row.cell (i := k) (by have := HM.out; omega)
      simp only [boolFn] at hcell
      have k1 : (0 : Int) ≤ (k : Int) := by omega
      have k2 : (k : Int) ≤ (m : Int) := by omega
      have k3 : (k : Int) < (m : Int) + 1 := by omega
      by_cases hsk : k ∈ seen
      · rw [decide_eq_true hsk] at hcell
        have HSK := Lib.hid hsk
        clear hsk
        go_wp2_with (go_at_call 21; refine (arcsN' b m X L _ (New.shAt HI.out.new HS.out) hl HM.out).mono ?_; rintro e w' ⟨rfl, rfl⟩)
        go_roundw
        case rel =>
          refine ⟨k + 1, seen, rs, by omega, by omega, by go_num, Lib.hid ⟨HI.out.new, HI.out.lb, HI.out.row, HI.out.out, HI.out.nd, HI.out.sub, ?_⟩⟩
          have := HI.out.eq
          rw [arcs_drop hk1 (by have := HM.out; omega), Kn.rings_seen _ HSK.out] at this
          exact this
        case measure => simp [intOf]; omega
      · rw [decide_eq_false hsk] at hcell
        have HSK := Lib.hid hsk
        clear hsk
        go_wp2_with (go_at_call 21; refine (arcsN' b m X L _ (New.shAt HI.out.new HS.out) hl HM.out).mono ?_; rintro e w' ⟨rfl, rfl⟩)
        clear hcell
        obtain ⟨wo, rfl⟩ : ∃ wo, wo = wr := ⟨_, rfl⟩
        have HQ0 : Hid (QInv wo wo w.heap.size X k seen [] k (.slice none 0 0)) := Lib.hid
          ⟨Fr.refl _ _, by rw [List.append_nil]; exact HI.out.row, ⟨rfl, .inl ⟨rfl, rfl⟩⟩, by rw [List.append_nil]; exact HI.out.nd, by rw [List.append_nil]; exact HI.out.sub, ⟨hk1, by have := HM.out; omega⟩, _, rfl, by simp⟩
        go_loopw [8, 9] (fun s i wr => ∃ (x : Nat) (r : List Nat), i = .int .i64 x ∧ Hid (QInv wo wr w.heap.size X k seen r x s)) (fun s _ _ => (m + 1) - lenV s)
        case atStart => exact ⟨k, [], rfl, HQ0⟩
        case round =>
          obtain ⟨x, r, rfl, HQ⟩ := hrel
          have hxa := HQ.out.arc
          have x1 : (0 : Int) ≤ (x : Int) := by omega
          have x2 : (x : Int) < (m : Int) + 1 := by have := hxa.2; have := HM.out; omega
          have hcx := HQ.out.row.cell (i := x) (by have := hxa.2; omega)
          simp only [boolFn] at hcx
          have HXA := Lib.hid hxa
          clear hxa
          by_cases hxs : x ∈ seen ++ r
          · rw [decide_eq_true hxs] at hcx
            have HR := Lib.hid (HQ.out.done hxs)
            clear hxs
            obtain ⟨vs, hv1, hv2⟩ := HI.out.out
            have hrl : vs.length = rs.length := hv2.len
            have hN : Hid (rs.length + 1 ≤ 64) := Lib.hid (HI.out.few HM.out hm32)
            have hv1' := HQ.out.fr.owns hv1 (own_ne hv1 HI.out.row (by decide))
            obtain ⟨a8, c8, rfl, _, _⟩ := own_shape HQ.out.ring
            obtain ⟨rl, HRL⟩ : ∃ rl, Hid (rl = r.length) := ⟨_, Lib.hid rfl⟩
            have hring := HQ.out.ring
            rw [← HRL.out] at hring ⊢
            obtain ⟨vl, HVL⟩ : ∃ vl, Hid (vl = vs.length) := ⟨_, Lib.hid rfl⟩
            have HOUT : Hid (wr.ownsRow w.heap.size 80 1 _ vl vs) := Lib.hid (by rw [HVL.out]; exact hv1')
            have HRING := Lib.hid hring
            have HV2 := Lib.hid hv2
            have hvl : vl ≤ 64 := by have := hN.out; have := HVL.out; omega
            clear hv1 hv1' hv2 hring hrl
            go_wp2_with (at_builtin; refine wpList_append_own _ rfl _ _ 89 rfl w.heap.size 80 i1 (.slice none 0 0) 1 24 Try.underlying89 hi1 hz10 hz11 hz12 rfl (by decide) _ vl vs rfl (World.ownsRow.alloc HOUT.out _) ⟨_, 0, none⟩ 1 1 [.slice a8 rl c8] rfl rfl (cell_one_new _ _ _) (one_sl _ _ _) (by unfold maxLen; omega) (by omega) (by have := HI.out.new.size; have := HQ.out.fr.size; simp; omega) ?_; intro v' w7 hown hgrow _)
            have HOW := Lib.hid hown
            have HGR := Lib.hid hgrow
            clear hown hgrow
            go_wp2
            go_roundw
            case rel =>
              refine ⟨k + 1, seen ++ r, rs ++ [r], by omega, by omega, by go_num, Lib.hid ⟨?_, HI.out.lb, ?_, ?_, HQ.out.nd, HQ.out.sub, ?_⟩⟩
              · have h1 : New w wr := HI.out.new.next HQ.out.fr fun i hi => .inr (by rw [hi]; exact Nat.le_refl _)
                exact (h1.alloc _).grown HGR.out fun k ek => .inr (own_lb HOUT.out k ek)
              · exact marks_app HQ.out.row HOUT.out HGR.out
              · rw [HVL.out] at HOW
                refine ⟨vs ++ [_], by rw [List.length_append]; exact HOW.out, Els.snoc (Els.mono (Els.mono HV2.out fun v l hn => HQ.out.fr.owns hn (own_ne hn HI.out.row (by decide))) fun v l hn => own_app hn HOUT.out (by decide) HGR.out) ?_⟩
                have := HRING.out
                rw [HRL.out] at this ⊢
                exact own_app (own0 this) HOUT.out (by decide) HGR.out
              · have := HI.out.eq
                rw [arcs_drop hk1 (by have := HM.out; omega), Kn.rings_new _ HSK.out, ← HR.out] at this
                rw [List.append_assoc]
                exact this
            case measure => simp [intOf]; omega
          · rw [decide_eq_false hxs] at hcx
            obtain ⟨s1, s2, s3, s4⟩ := HQ.out.snoc hxs
            have S1 := Lib.hid s1
            have S2 := Lib.hid s2
            have S4 := Lib.hid s4
            obtain ⟨a8, c8, rfl, _, _⟩ := own_shape HQ.out.ring
            obtain ⟨rl, HRL⟩ : ∃ rl, Hid (rl = r.length) := ⟨_, Lib.hid rfl⟩
            have hring := HQ.out.ring
            rw [← HRL.out] at hring s3 ⊢
            have hfz := HQ.out.row.frozen x
            have HRING := Lib.hid hring
            have s3' : rl + 1 ≤ m := by have := HM.out; omega
            clear hxs s1 s2 s4 hring s3
            have hset := HQ.out.row
            have HW1 : Hid (Fr (fun j => j = w.heap.size) wo (wr.setCell ⟨w.heap.size, x, none⟩ (.bool true))) := Lib.hid (HQ.out.fr.setCell (.inl rfl) _)
            have HRG : Hid ((wr.setCell ⟨w.heap.size, x, none⟩ (.bool true)).ownsRow wo.heap.size 3 1 (.slice a8 rl c8) rl (nums r)) := Lib.hid
              (((Fr.refl (fun j => j = w.heap.size) wr).setCell (.inl rfl) _).owns HRING.out (own_ne HRING.out HQ.out.row (by decide)))
            clear hset
            go_wp2_with (first
              | (at_builtin; refine wpList_append_own _ rfl _ _ 80 rfl wo.heap.size 3 i0 (.int .i64 0) 1 8 Try.underlying80 hi hz0 hz1 hz2 rfl (by decide) _ rl (nums r) rfl (World.ownsRow.alloc HRG.out _) ⟨wr.heap.size, 0, none⟩ 1 1 [.int .i64 (x : Int)] rfl rfl (cell_one' (size_set _ _ _).symm) (one_int _) (by unfold maxLen; omega) (by omega) ((HW1.out.alloc _).size) ?_; intro v' w7 hown hgrow _; obtain ⟨a9, c9, rfl, _, _⟩ := own_shape hown; have HOW := Lib.hid hown; have HF7 : Hid (Fr (fun j => j = w.heap.size) wo w7) := Lib.hid ((HW1.out.alloc _).grown hgrow fun k ek => .inr (own_lb HRG.out k ek)); have HR7 : Hid (w7.rowIs w.heap.size 4 (Kn.nArcs X + 1) (boolFn fun j => decide (j ∈ seen ++ (r ++ [x])))) := Lib.hid (by rw [← List.append_assoc]; exact marks_app (marks_set HQ.out.row x) HRG.out hgrow); clear hown hgrow)
              | (go_at_call 52; refine (next_any b x X L _ (New.shAt (HI.out.new.next HF7.out fun i hi => .inr (by rw [hi]; exact Nat.le_refl _)) HS.out) HX.out hl HXA.out).mono ?_; rintro e w8 ⟨rfl, hE⟩; have HE := Lib.hid hE; clear hE))
            go_roundw
            case rel =>
              refine ⟨Kn.nextA X x, r ++ [x], rfl, Lib.hid ⟨HF7.out.trans (HE.out.mono fun _ h => h.elim), HE.out.row HR7.out fun x => x, ?_, S1.out, S2.out, HX.out.isArc_next HXA.out, S4.out⟩⟩
              have := HE.out.owns HOW.out fun _ _ x => x
              rw [nums_snoc, List.length_append, ← HRL.out]
              exact this
            case measure => simp only [lenV]; omega
    · obtain rfl : k = m + 1 := by omega
      go_wp2_with (go_at_call 21; refine (arcsN' b m X L _ (New.shAt HI.out.new HS.out) hl HM.out).mono ?_; rintro e w' ⟨rfl, rfl⟩)
      go_ret
      refine ⟨_, rfl, ?_, HI.out.new⟩
      have := HI.out.eq
      rw [List.drop_eq_nil_of_le (by rw [Kn.arcs_length]; have := HM.out; omega), Kn.rings_nil, List.append_nil] at this
      rw [← this]
      exact HI.out.out

theorem strands_any (b : Nat) (X : List Kn.Cr) (L : Int) (w : World) (h : ShAt w b X L) (hX : Kn.Ok X) (hl : X.length ≤ 16) :
    Calls Try.prog 39 #[.pointer (some ⟨b, 0, none⟩)] w (GaveRows (Kn.strandsL X) w) := by
  have HC := Lib.hid (rings_any b X L w h hX hl)
  clear h hX
  go_enter Try.func39, Try.ntmps39
  go_wp2_with (go_at_call 51; refine HC.out.mono ?_; rintro e w' ⟨v, rfl, hr, hF⟩; have HR := Lib.hid hr; have HF := Lib.hid hF; clear hr hF)
  go_ret
  exact ⟨v, rfl, HR.out, HF.out⟩
end Go.Proofs.Ytlicglicfijelaa
