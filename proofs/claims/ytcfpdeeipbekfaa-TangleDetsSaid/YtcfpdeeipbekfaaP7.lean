/- Walks: Times. -/
import Derived.Test.YtcfpdeeipbekfaaP6
namespace Go.Proofs.Ytcfpdeeipbekfaa
open Go.RowKit

theorem mul_le_one {c d : Int} {S : Nat} {lo d2 lb done : List Pl.T} {x f : Int} (h : Pl.size (Pl.mul done lb ++ Pl.mul [(x, c)] (d2 ++ [(f, d)])) ≤ S) (hlo : lo = Pl.mul done lb ++ Pl.mul [(x, c)] d2) :
    Pl.size (lo ++ [(x + f, c * d)]) ≤ S ∧ -(S : Int) ≤ c * d ∧ c * d ≤ S := by
  rw [Pl.mul_one_snoc, ← List.append_assoc, ← hlo] at h
  refine ⟨h, ?_⟩
  rw [Pl.size_app, Pl.size_cons] at h
  have : (c * d).natAbs ≤ S := by
    have : ((x + f, c * d) : Pl.T).2.natAbs = (c * d).natAbs := rfl
    omega
  omega

set_option maxRecDepth 100000 in
set_option maxHeartbeats 2000000 in
theorem timesW_any (va vb : Value) (la lb : List Pl.T) (na nb : Nat) (w : World) (ha : Wk w va la na) (hb : Wk w vb lb nb) (hn : na * nb ≤ 1000000) (hea : Exps 1000000000 la) (heb : Exps 1000000000 lb) (hs : Pl.size la * Pl.size lb ≤ 1000000000000000000) :
    Calls Try.prog 56 #[va, vb] w (GaveW (Pl.mul la lb) (na * nb) w) := by
  obtain ⟨b, D, rfl, ho, hd⟩ := ha
  obtain ⟨b', D', rfl, ho', hd'⟩ := hb
  have hlt := ho.lt
  have hlt' := ho'.lt
  have HO := Lib.hid ho
  have HO' := Lib.hid ho'
  have HD := Lib.hid hd
  have HD' := Lib.hid hd'
  have HEA := Lib.hid hea
  have HEB := Lib.hid heb
  have HS := Lib.hid hs
  have HZ := Lib.hid ho.size
  have HZ' := Lib.hid ho'.size
  obtain ⟨N, HN⟩ : ∃ N, Hid (N = na * nb) := ⟨_, Lib.hid rfl⟩
  rw [← HN.out] at hn ⊢
  clear ho ho' hd hd' hea heb hs
  have hmm := @run_makeMap Try.prog
  obtain ⟨B, HB⟩ : ∃ B, Hid (B = w.heap.size) := ⟨_, Lib.hid rfl⟩
  obtain ⟨wm, HWM⟩ : ∃ wm, Hid (wm = w.alloc (.map #[] 0)) := ⟨_, Lib.hid rfl⟩
  obtain ⟨r, HR⟩ : ∃ r, Hid (r = wm.heap.size) := ⟨_, Lib.hid rfl⟩
  have HFm : Hid (New w wm) := Lib.hid (by rw [HWM.out]; exact (Fr.refl _ _).alloc _)
  have HOm : Hid (OM wm b na D) := Lib.hid (New.om HFm.out HO.out)
  have HO'm : Hid (OM wm b' nb D') := Lib.hid (New.om HFm.out HO'.out)
  have HOB : Hid (OM wm B 0 (.map [])) := Lib.hid (by rw [HWM.out, HB.out]; exact World.ownsMap_made _ _ _ _)
  have hBr : B ≠ r := by
    rw [HR.out]
    have := HOB.out.lt
    omega
  have hb1 : b ≠ B := by rw [HB.out]; omega
  have hb2 : b' ≠ B := by rw [HB.out]; omega
  have hr1 : b ≠ r := by rw [HR.out]; have := HFm.out.size; omega
  have hr2 : b' ≠ r := by rw [HR.out]; have := HFm.out.size; omega
  go_enter Try.func56, Try.ntmps56
  go_wp2_with (first
    | (at_range; rw [← HWM.out, ← HB.out]; refine wpList_range_own _ rfl _ 101 rfl 3 3 law3 ul45 _ b na _ rfl HOm.out ?_; intro w0 hrg0 hg0 hs0)
    | go_in)
  go_frame
  rw [← HR.out] at hrg0 hs0 ⊢
  have HF0 : Hid (New w w0) := Lib.hid (HFm.out.grown hg0 fun k ek => by cases ek)
  have HOB0 : Hid (OM w0 B 0 (.map [])) := Lib.hid (HOB.out.kept hg0 (by simp))
  have HR0 := Lib.hid (Rng.start HD.out hrg0)
  clear hrg0 hg0 hs0
  go_loopw [6, 7, 8, 9] (fun _ _ _ _ wr => ∃ (left : Lit → Bool) (cnt m : Nat) (Dout : DataW Unit) (done : List Pl.T), Hid (m + cnt * nb ≤ N) ∧ Hid (Rng wr b r na D la left cnt done) ∧ Hid (OM wr B m Dout) ∧ Hid (RD Dout (Pl.mul done lb)) ∧ Hid (New w wr))
    (fun _ _ _ _ wr => wr.rangeLeft b r)
  case atStart => exact ⟨_, _, 0, .map [], [], Lib.hid (by rw [HN.out, Nat.zero_add]; exact Nat.mul_le_mul_right _ HZ.out), HR0, HOB0, Lib.hid RD.empty, HF0⟩
  case round =>
    obtain ⟨left, cnt, m, Dout, done, HM, HRg, HOo, HDo, HF⟩ := hrel
    go_wp2_with (first
      | (at_next; refine wpList_next_ranges_ii _ rfl _ rfl 3 3 .i64 .i64 law3 Try.underlying3 Try.underlying3 b r na _ _ _ rfl HRg.out.rg ?_ ?_)
      | go_in)
    · intro hc0 hl0
      have HL0 := Lib.hid hl0
      clear hl0
      go_wp2
      go_ret
      exact ⟨_, rfl, ⟨_, Dout, rfl, HOo.out.mono (by have := HM.out; omega), HDo.out.congr (Pl.mul_congr (HRg.out.all HL0.out) (fun _ => rfl) <| Pl.at1 ·) (Pl.mul_exps HRg.out.part.exps (Pl.same_exps lb))⟩, HF.out⟩
    · intro x c w2 cnt1 hwx hwc hlx hat hrg1 hlt1 hg1 hs1 hen
      have HR1 : Hid (Rng w2 b r na D la (fun z => left z && !z.sameKey (.int .i64 x)) cnt1 (done ++ [(x, c)])) := Lib.hid (HRg.out.step HD.out hlx hat hrg1)
      have HO1 : Hid (OM w2 B m Dout) := Lib.hid (HOo.out.kept hg1 (by simpa using hBr))
      have HF1 : Hid (New w w2) := Lib.hid (HF.out.grown hg1 fun k ek => .inr (by cases ek; rw [HR.out]; exact HFm.out.size))
      have HO'1 : Hid (OM w2 b' nb D') := Lib.hid (New.om HF1.out HO'.out)
      obtain ⟨u, hu, hux⟩ := HR1.out.part.exps (x, c) (by simp)
      have hxe := HEA.out u hu
      rw [hux] at hxe
      have x1 : -1000000000 ≤ x := hxe.1
      have x2 : x ≤ 1000000000 := hxe.2
      have HLT := Lib.hid hlt1
      have HMM : Hid (m + nb + cnt1 * nb ≤ N) := Lib.hid (by
        have h1 := HM.out
        have h2 : (cnt1 + 1) * nb ≤ cnt * nb := Nat.mul_le_mul_right _ hlt1
        rw [Nat.add_mul] at h2
        omega)
      obtain ⟨s, HSs⟩ : ∃ s, Hid (s = w2.heap.size) := ⟨_, Lib.hid rfl⟩
      have hsr : s ≠ r := by rw [HSs.out]; have := HR1.out.rg.lt; omega
      have hsB : s ≠ B := by rw [HSs.out]; have := HO1.out.lt; omega
      have hsb : s ≠ b := by rw [HSs.out]; have := HF1.out.size; omega
      have HSle : Hid (w.heap.size ≤ s) := Lib.hid (by rw [HSs.out]; exact HF1.out.size)
      clear hwx hwc hlx hat hrg1 hg1 hs1 hu hux hxe hlt1
      go_wp2_with (first
        | (at_range; refine wpList_range_own _ rfl _ 101 rfl 3 3 law3 ul45 _ b' nb _ rfl HO'1.out ?_; intro w3 hrg0 hg0 hs0)
        | go_in)
      go_frame
      rw [← HSs.out] at hrg0 hs0 ⊢
      have HF3 : Hid (New w w3) := Lib.hid (HF1.out.grown hg0 fun k ek => by cases ek)
      have HO3 : Hid (OM w3 B m Dout) := Lib.hid (HO1.out.kept hg0 (by simp))
      have HI3 := Lib.hid (Rng.start HD'.out hrg0)
      have HR3 := Lib.hid (HR1.out.kept hg0 (by simp) (by simp))
      clear hrg0 hg0 hs0
      go_loopw [8, 9] (fun _ _ wi => ∃ (left2 : Lit → Bool) (cnt2 m2 : Nat) (D2 : DataW Unit) (d2 : List Pl.T), Hid (m2 + cnt2 ≤ m + nb) ∧ Hid (Rng wi b' s nb D' lb left2 cnt2 d2) ∧ Hid (Rng wi b r na D la (fun z => left z && !z.sameKey (.int .i64 x)) cnt1 (done ++ [(x, c)])) ∧ Hid (OM wi B m2 D2) ∧ Hid (RD D2 (Pl.mul done lb ++ Pl.mul [(x, c)] d2)) ∧ Hid (New w wi))
        (fun _ _ wi => wi.rangeLeft b' s)
      case atStart => exact ⟨_, _, m, Dout, [], Lib.hid (Nat.add_le_add_left HZ'.out _), HI3, HR3, HO3, Lib.hid (by simpa [Pl.mul] using HDo.out), HF3⟩
      case round =>
        obtain ⟨left2, cnt2, m2, D2, d2, HM2, HI, HRo, HOi, HDi, HFi⟩ := hrel
        go_wp2_with (first
          | (at_next; refine wpList_next_ranges_ii _ rfl _ rfl 3 3 .i64 .i64 law3 Try.underlying3 Try.underlying3 b' s nb _ _ _ rfl HI.out.rg ?_ ?_)
          | go_in)
        · intro hc0 hl0
          have HL0 := Lib.hid hl0
          clear hl0
          go_wp2
          go_roundw
          case rel => exact ⟨_, cnt1, m2, D2, _, Lib.hid (by have := HMM.out; have := HM2.out; omega), HRo, HOi, Lib.hid (HDi.out.congr (Pl.row_end (HI.out.all HL0.out)) (by rw [Pl.mul_app]; exact Pl.app_exps (Pl.same_exps _) (Pl.mul_exps (Pl.same_exps _) HI.out.part.exps))), HFi⟩
          case measure => rw [HRo.out.rg.left_eq, HRg.out.rg.left_eq]; exact HLT.out
        · intro f d w5 cnt3 hwx hwc hlx hat hrg1 hlt2 hg1 hs1 hen2
          have HI5 : Hid (Rng w5 b' s nb D' lb (fun z => left2 z && !z.sameKey (.int .i64 f)) cnt3 (d2 ++ [(f, d)])) := Lib.hid (HI.out.step HD'.out hlx hat hrg1)
          have HO5 : Hid (OM w5 B m2 D2) := Lib.hid (HOi.out.kept hg1 (by simpa using hsB.symm))
          have HR5 := Lib.hid (HRo.out.kept hg1 (by simpa using hsb.symm) (by simpa using hsr.symm))
          have HF5 : Hid (New w w5) := Lib.hid (HFi.out.grown hg1 fun k ek => .inr (by cases ek; exact HSle.out))
          obtain ⟨u, hu, hux⟩ := HI5.out.part.exps (f, d) (by simp)
          have hxe := HEB.out u hu
          rw [hux] at hxe
          have f1 : -1000000000 ≤ f := hxe.1
          have f2 : f ≤ 1000000000 := hxe.2
          obtain ⟨lo, HLO⟩ : ∃ lo, Hid (lo = Pl.mul done lb ++ Pl.mul [(x, c)] d2) := ⟨_, Lib.hid rfl⟩
          rw [← HLO.out] at HDi
          have hmo := mul_le_one (Nat.le_trans (Pl.row_size HR5.out.size HI5.out.size) HS.out) HLO.out
          obtain ⟨p, HP⟩ : ∃ p, Hid (p = c * d) := ⟨_, Lib.hid rfl⟩
          rw [← HP.out] at hmo
          have hbd := snoc_bd hmo.1
          obtain ⟨q, HQ⟩ : ∃ q, Hid (q = Pl.co lo (x + f)) := ⟨_, Lib.hid rfl⟩
          rw [← HQ.out] at hbd
          have p1 : -1000000000000000000 ≤ p := by have := hmo.2; omega
          have p2 : p ≤ 1000000000000000000 := by have := hmo.2; omega
          have z1 : -1000000000000000000 ≤ q + p := by omega
          have z2 : q + p ≤ 1000000000000000000 := by omega
          have z5 : -1000000000000000000 ≤ q := by omega
          have z6 : q ≤ 1000000000000000000 := by omega
          have HLT2 := Lib.hid hlt2
          have hw1 : wrap64 (c * d) = p := by rw [← HP.out]; exact IntWalk.wrap64_in _ (by omega)
          have hn2 : m2 ≤ 1000000 := by have := HM2.out; have := HMM.out; omega
          clear hwx hwc hlx hat hrg1 hg1 hs1 hu hux hxe hmo hbd hlt2
          go_wp2_with (first
            | (at_lookup; refine wpList_lookup_own_int _ rfl _ _ 101 rfl 3 3 .i64 law3 ul45 Try.underlying3 (zero3 _) B m2 _ rfl HO5.out _ _ rfl (Maps.keyOf_int_mk Try.underlying3 (wf64 (by omega))) ?_; intro cc hat hwc; obtain ⟨HCC, c1, c2, c3, c4⟩ := look_bd HDi.out HQ.out hat z1 z2 z5 z6; clear hat hwc)
            | (at_mapUpdate; refine wpList_mapUpdate_own _ rfl _ _ _ 101 rfl 3 3 law3 ul45 _ B m2 _ rfl HO5.out (by unfold maxLen; omega) _ _ _ rfl rfl (Maps.keyOf_int_mk Try.underlying3 (wf64 (by omega))) _ [] (plainElem_int Try.underlying3 (wf64 (by omega))) ?_; intro w6 hown2 hg2; go_frame)
            | go_in)
          have HO6 := Lib.hid hown2
          have HI6 := Lib.hid (HI5.out.kept hg2 (by simpa using hb2) (by simpa using hsB))
          have HR6 := Lib.hid (HR5.out.kept hg2 (by simpa using hb1) (by simpa using hBr.symm))
          have HF6 : Hid (New w w6) := Lib.hid (HF5.out.grown hg2 fun k ek => .inr (by cases ek; rw [HB.out]; exact Nat.le_refl _))
          clear hown2 hg2
          go_roundw
          case rel => exact ⟨_, cnt3, m2 + 1, _, _, Lib.hid (by have := HLT2.out; have := HM2.out; omega), HI6, HR6, HO6, Lib.hid (by rw [Pl.mul_one_snoc, ← List.append_assoc, ← HLO.out, ← HP.out]; exact RD.put HDi.out (by rw [HCC.out, HQ.out])), HF6⟩
          case measure => rw [HI6.out.rg.left_eq, HI.out.rg.left_eq]; exact HLT2.out
end Go.Proofs.Ytcfpdeeipbekfaa
