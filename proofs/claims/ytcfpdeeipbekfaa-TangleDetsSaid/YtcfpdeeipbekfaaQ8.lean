/- Walks: table's inner function, which adds to a place of a row. -/
import Derived.Test.YtcfpdeeipbekfaaQ7
namespace Go.Proofs.Ytcfpdeeipbekfaa
open Go.RowKit Go.Maps

/- a row of polynomials under work -/
def RW (w : World) (Rb m : Nat) (r : Nat → List Pl.T) : Prop := ∃ f, w.rowIs Rb 101 m f ∧ ∀ j, j < m → Wk w (f j) (r j) 3
theorem Wk.frow {w w' : World} {Rb : Nat} {v : Value} {l : List Pl.T} {n t m : Nat} {f : Nat → Value} (hw : Wk w v l n) (h : Fr (fun k => k = Rb) w w') (hr : w.rowIs Rb t m f) : Wk w' v l n := by
  obtain ⟨b, D, rfl, ho, hd⟩ := hw
  refine ⟨b, D, rfl, ?_, hd⟩
  obtain ⟨es, clock, hb, r⟩ := ho
  obtain ⟨c, hc, _⟩ := hr
  have hne : ¬ b = Rb := by
    rintro rfl
    rw [hb] at hc
    cases hc
  exact ⟨es, clock, h.blk hb hne, r⟩
theorem New.rw {w w' : World} (h : New w w') {Rb m : Nat} {r : Nat → List Pl.T} (hr : RW w Rb m r) : RW w' Rb m r := by
  obtain ⟨f, h1, h2⟩ := hr
  exact ⟨f, h.row h1 fun x => x, fun j hj => h.wk (h2 j hj)⟩
def addR (r : Nat → List Pl.T) (i : Nat) (l : List Pl.T) (j : Nat) : List Pl.T := if j = i then r j ++ l else r j
set_option maxRecDepth 100000 in
set_option maxHeartbeats 1000000 in
theorem put_any (B1 B2 Rb ob m mm a : Nat) (g : Nat → Nat) (r : Nat → List Pl.T) (v : Value) (l : List Pl.T) (w : World)
    (h1 : w.cell? ⟨B1, 0, none⟩ = some (.slice (some ⟨Rb, 0, none⟩) m m)) (h2 : w.cell? ⟨B2, 0, none⟩ = some (.slice (some ⟨ob, 0, none⟩) mm mm)) (ho : w.rowIs ob 3 mm (numFn g)) (hr : RW w Rb m r)
    (n1 : B1 ≠ Rb) (n2 : B2 ≠ Rb) (n3 : ob ≠ Rb) (ha : a < mm) (hg : g a < m) (hm : m ≤ 100) (hmm : mm ≤ 100) (hv : Ts w v l) (hl : l.length ≤ 2) (hs : Pl.size l ≤ 2) (he : Pl.ExpsW 1 l) (hz : Pl.size (r (g a)) ≤ 100) (hrx : Pl.ExpsW 1 (r (g a))) :
    Calls Try.prog 51 #[.int .i64 a, v, .pointer (some ⟨B1, 0, none⟩), .pointer (some ⟨B2, 0, none⟩)] w (fun e w' => (∃ u, e = .returned u) ∧ Fr (fun k => k = Rb) w w' ∧ RW w' Rb m (addR r (g a) l)) := by
  obtain ⟨f, hf, hw⟩ := hr
  have HF := Lib.hid hf
  have HW := Lib.hid hw
  have HV := Lib.hid hv
  have HE := Lib.hid he
  have HRX := Lib.hid hrx
  have q3 := ho.cell (i := a) ha
  simp only [numFn] at q3
  obtain ⟨p, hp⟩ : ∃ p, p = g a := ⟨_, rfl⟩
  rw [← hp] at q3 hg hz hrx HRX
  rw [← hp]
  have q4 := hf.cell (i := p) hg
  obtain ⟨y, HY⟩ : ∃ y, Hid (y = f p) := ⟨_, Lib.hid rfl⟩
  rw [← HY.out] at q4
  have HWY : Hid (Wk w y (r p) 3) := Lib.hid (by rw [HY.out]; exact hw p hg)
  have HQ1 := Lib.hid h1
  have HQ2 := Lib.hid h2
  have HQ3 := Lib.hid q3
  have HQ4 := Lib.hid q4
  have hD : New w w.drew := (Fr.refl (fun _ => False) w).drew
  have q4d := hD.cell q4 fun x => x
  have a1 : (0 : Int) ≤ (a : Int) := by omega
  have a2 : (a : Int) < (mm : Int) := by omega
  have a3 : (0 : Int) ≤ (p : Int) := by omega
  have a4 : (p : Int) < (m : Int) := by omega
  have HD := Lib.hid hD
  have HM := Lib.hid hp
  clear hf hw hv he hrx ho hp hD q4 h1 h2 q3
  go_enter Try.func51, Try.ntmps51
  go_wp2_with fail
  refine wp_region_held_drew (S := fun wz => wz.cell? ⟨B1, 0, none⟩ = some (.slice (some ⟨Rb, 0, none⟩) m m) ∧ wz.cell? ⟨B2, 0, none⟩ = some (.slice (some ⟨ob, 0, none⟩) mm mm) ∧ wz.cell? ⟨ob, a, none⟩ = some (.int .i64 p)) (by kernel_rfl) ⟨HD.out.cell HQ1.out fun x => x, HD.out.cell HQ2.out fun x => x, HD.out.cell HQ3.out fun x => x⟩ (fun hHeld => ?_)
  refine' tkO (i := 0) ?_
  (try simp only [Act.put, lq1, lq2, lq3, lq4, lq5, lq6])
  refine' tkO (i := 1) ?_
  (try simp only [Act.put, lq1, lq2, lq3, lq4, lq5, lq6])
  refine' tkO (i := 2) ?_
  (try simp only [Act.put, lq1, lq2, lq3, lq4, lq5, lq6])
  refine' tkO (i := 3) ?_
  (try simp only [Act.put, lq1, lq2, lq3, lq4, lq5, lq6])
  refine' tkO (i := 4) ?_
  (try simp only [Act.put, lq1, lq2, lq3, lq4, lq5, lq6])
  refine' tkO (i := 5) ?_
  (try simp only [Act.put, lq1, lq2, lq3, lq4, lq5, lq6])
  refine' tkO (i := 6) ?_
  (try simp only [Act.put, lq1, lq2, lq3, lq4, lq5, lq6])
  refine' tkO (i := 7) ?_
  (try simp only [Act.put, lq1, lq2, lq3, lq4, lq5, lq6])
  refine' tkO (i := 8) ?_
  (try simp only [Act.put, lq1, lq2, lq3, lq4, lq5, lq6])
  refine' tkO (i := 9) ?_
  (try simp only [Act.put, lq1, lq2, lq3, lq4, lq5, lq6])
  refine' tkO (i := 10) ?_
  (try simp only [Act.put, lq1, lq2, lq3, lq4, lq5, lq6])
  refine' tkO (i := 12) ?_
  (try simp only [Act.put, lq1, lq2, lq3, lq4, lq5, lq6])
  refine wpAnyH_ready (rs := [11, 13]) (by kernel_rfl) (by simp) ?_
  refine AllReadyH.cons rfl (fun K hK => ?_) (AllReadyH.cons rfl (fun K hK => ?_) (AllReadyH.nil))
  · skip
    (try simp only [lq1, lq2, lq3])
    go_simp
    refine hK.out _ _ hHeld (fun hHeld => ?_)
    clear hK K
    (try simp only [Act.put, lq1, lq2, lq3, lq4, lq5, lq6])
    refine wpAnyH_ready (rs := [13]) (by kernel_rfl) (by simp) ?_
    refine AllReadyH.cons rfl (fun K hK => ?_) (AllReadyH.nil)
    (try simp only [lq1, lq2, lq3])
    go_simp
    refine (of_any _ l _ (New.ts HD.out HV.out) (by omega) (fun t ht => by have := HE.out t ht; omega) (by omega)).mono ?_
    rintro e wa ⟨u, rfl, hu, hn1⟩
    have hN : New w wa := HD.out.trans hn1
    have q5 := hN.cell HQ4.out fun x => x
    go_wp2_with fail
    refine hK.out _ _ ⟨hN.cell HQ1.out fun x => x, hN.cell HQ2.out fun x => x, hN.cell HQ3.out fun x => x⟩ (fun hHeld => ?_)
    clear hK K
    (try simp only [Act.put, lq1, lq2, lq3, lq4, lq5, lq6])
    refine wpAnyH_ready (rs := [14]) (by kernel_rfl) (by simp) ?_
    refine AllReadyH.cons rfl (fun K hK => ?_) (AllReadyH.nil)
    (try simp only [lq1, lq2, lq3])
    go_simp
    refine (plusW_any y u (r p) l 3 l.length _ (New.wk hN HWY.out) hu (by omega) (fun t ht => by have := HE.out t ht; omega) (by omega)).mono ?_
    rintro e wb ⟨u2, rfl, hu2, hn2⟩
    obtain ⟨b9, D9, rfl, ho9, hr9⟩ := hu2
    have hN1 := hN
    clear hN
    have hN : New w wb := hN1.trans hn2
    have q6 := hN.row HF.out (fun x => x)
    have f6 := q6.frozen p
    have c6 := q6.cell (i := p) hg
    go_wp2_with fail
    refine hK.out _ _ ⟨hN.cell HQ1.out fun x => x, hN.cell HQ2.out fun x => x, hN.cell HQ3.out fun x => x⟩ (fun hHeld => ?_)
    clear hK K
    (try simp only [Act.put, lq1, lq2, lq3, lq4, lq5, lq6])
    refine' tkO (i := 15) ?_
    (try simp only [Act.put, lq1, lq2, lq3, lq4, lq5, lq6])
    refine wpAnyH_ready (rs := [16]) (by kernel_rfl) (by simp) ?_
    refine AllReadyH.cons rfl (fun K hK => ?_) (AllReadyH.nil)
    (try simp only [lq1, lq2, lq3])
    go_simp
    refine hK.out _ _ ⟨((Fr.refl (fun k => k = Rb) _).setCell (a := ⟨Rb, p, none⟩) (.inl rfl) _).cell (hN.cell HQ1.out fun x => x) n1, ((Fr.refl (fun k => k = Rb) _).setCell (a := ⟨Rb, p, none⟩) (.inl rfl) _).cell (hN.cell HQ2.out fun x => x) n2, ((Fr.refl (fun k => k = Rb) _).setCell (a := ⟨Rb, p, none⟩) (.inl rfl) _).cell (hN.cell HQ3.out fun x => x) n3⟩ (fun hHeld => ?_)
    clear hK K
    (try simp only [Act.put, lq1, lq2, lq3, lq4, lq5, lq6])
    refine wpAnyH_done (by kernel_rfl) ?_ _
    have hS := (Fr.refl (fun k => k = Rb) wb).setCell (a := ⟨Rb, p, none⟩) (.inl rfl) (.map (some b9))
    have HNS : Hid (Fr (fun k => k = Rb) w (wb.setCell ⟨Rb, p, none⟩ (.map (some b9)))) := Lib.hid ((hN.mono fun _ h => h.elim).trans hS)
    have HRW : Hid (RW (wb.setCell ⟨Rb, p, none⟩ (.map (some b9))) Rb m (addR r p l)) := Lib.hid ⟨_, q6.set p _, fun j hj => by
      unfold addR
      by_cases c : j = p
      · rw [if_pos c, if_pos c, c]
        have h3 : Wk wb (.map (some b9)) (r p ++ l) (2 * 1 + 1) := Wk.tight (n := 3 + l.length) ⟨b9, D9, rfl, ho9, hr9⟩ fun t ht => by
          rcases List.mem_append.1 ht with ht | ht
          · exact HRX.out t ht
          · exact HE.out t ht
        exact h3.frow hS q6
      · rw [if_neg c, if_neg c]
        exact (New.wk hN (HW.out j hj)).frow hS q6⟩
    clear hS c6 f6 q6 hr9 ho9
    refine bodyPost_end (results_none rfl _ _ _) rfl ?_
    exact ⟨⟨_, rfl⟩, HNS.out, HRW.out⟩
  · skip
    (try simp only [lq1, lq2, lq3])
    go_simp
    refine (of_any _ l _ (New.ts HD.out HV.out) (by omega) (fun t ht => by have := HE.out t ht; omega) (by omega)).mono ?_
    rintro e wa ⟨u, rfl, hu, hn1⟩
    have hN : New w wa := HD.out.trans hn1
    have q5 := hN.cell HQ4.out fun x => x
    go_wp2_with fail
    refine hK.out _ _ ⟨hN.cell HQ1.out fun x => x, hN.cell HQ2.out fun x => x, hN.cell HQ3.out fun x => x⟩ (fun hHeld => ?_)
    clear hK K
    (try simp only [Act.put, lq1, lq2, lq3, lq4, lq5, lq6])
    refine wpAnyH_ready (rs := [11]) (by kernel_rfl) (by simp) ?_
    refine AllReadyH.cons rfl (fun K hK => ?_) (AllReadyH.nil)
    (try simp only [lq1, lq2, lq3])
    go_simp
    refine hK.out _ _ hHeld (fun hHeld => ?_)
    clear hK K
    (try simp only [Act.put, lq1, lq2, lq3, lq4, lq5, lq6])
    refine wpAnyH_ready (rs := [14]) (by kernel_rfl) (by simp) ?_
    refine AllReadyH.cons rfl (fun K hK => ?_) (AllReadyH.nil)
    (try simp only [lq1, lq2, lq3])
    go_simp
    refine (plusW_any y u (r p) l 3 l.length _ (New.wk hN HWY.out) hu (by omega) (fun t ht => by have := HE.out t ht; omega) (by omega)).mono ?_
    rintro e wb ⟨u2, rfl, hu2, hn2⟩
    obtain ⟨b9, D9, rfl, ho9, hr9⟩ := hu2
    have hN1 := hN
    clear hN
    have hN : New w wb := hN1.trans hn2
    have q6 := hN.row HF.out (fun x => x)
    have f6 := q6.frozen p
    have c6 := q6.cell (i := p) hg
    go_wp2_with fail
    refine hK.out _ _ ⟨hN.cell HQ1.out fun x => x, hN.cell HQ2.out fun x => x, hN.cell HQ3.out fun x => x⟩ (fun hHeld => ?_)
    clear hK K
    (try simp only [Act.put, lq1, lq2, lq3, lq4, lq5, lq6])
    refine' tkO (i := 15) ?_
    (try simp only [Act.put, lq1, lq2, lq3, lq4, lq5, lq6])
    refine wpAnyH_ready (rs := [16]) (by kernel_rfl) (by simp) ?_
    refine AllReadyH.cons rfl (fun K hK => ?_) (AllReadyH.nil)
    (try simp only [lq1, lq2, lq3])
    go_simp
    refine hK.out _ _ ⟨((Fr.refl (fun k => k = Rb) _).setCell (a := ⟨Rb, p, none⟩) (.inl rfl) _).cell (hN.cell HQ1.out fun x => x) n1, ((Fr.refl (fun k => k = Rb) _).setCell (a := ⟨Rb, p, none⟩) (.inl rfl) _).cell (hN.cell HQ2.out fun x => x) n2, ((Fr.refl (fun k => k = Rb) _).setCell (a := ⟨Rb, p, none⟩) (.inl rfl) _).cell (hN.cell HQ3.out fun x => x) n3⟩ (fun hHeld => ?_)
    clear hK K
    (try simp only [Act.put, lq1, lq2, lq3, lq4, lq5, lq6])
    refine wpAnyH_done (by kernel_rfl) ?_ _
    have hS := (Fr.refl (fun k => k = Rb) wb).setCell (a := ⟨Rb, p, none⟩) (.inl rfl) (.map (some b9))
    have HNS : Hid (Fr (fun k => k = Rb) w (wb.setCell ⟨Rb, p, none⟩ (.map (some b9)))) := Lib.hid ((hN.mono fun _ h => h.elim).trans hS)
    have HRW : Hid (RW (wb.setCell ⟨Rb, p, none⟩ (.map (some b9))) Rb m (addR r p l)) := Lib.hid ⟨_, q6.set p _, fun j hj => by
      unfold addR
      by_cases c : j = p
      · rw [if_pos c, if_pos c, c]
        have h3 : Wk wb (.map (some b9)) (r p ++ l) (2 * 1 + 1) := Wk.tight (n := 3 + l.length) ⟨b9, D9, rfl, ho9, hr9⟩ fun t ht => by
          rcases List.mem_append.1 ht with ht | ht
          · exact HRX.out t ht
          · exact HE.out t ht
        exact h3.frow hS q6
      · rw [if_neg c, if_neg c]
        exact (New.wk hN (HW.out j hj)).frow hS q6⟩
    clear hS c6 f6 q6 hr9 ho9
    refine bodyPost_end (results_none rfl _ _ _) rfl ?_
    exact ⟨⟨_, rfl⟩, HNS.out, HRW.out⟩
end Go.Proofs.Ytcfpdeeipbekfaa
