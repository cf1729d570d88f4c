/- Walks: OnesCount of small numbers; Shift by a sign. -/
import Derived.Test.YtjgmlicmjpgfcaaDoorW11
import Derived.Test.YtjgmlicmjpgfcaaDoorMDet
namespace Go.Proofs.YtjgmlicmjpgfcaaDoor
open Go.RowKit

set_option maxHeartbeats 1000000 in
theorem ones_any (x : Nat) (w : World) (hx : x < 8) : Calls Tryd.prog 35 #[.int .u64 x] w fun e w' => e = .returned (.int .i64 (Pl.pop x)) ∧ w = w' := by
  have h : x = 0 ∨ x = 1 ∨ x = 2 ∨ x = 3 ∨ x = 4 ∨ x = 5 ∨ x = 6 ∨ x = 7 := by omega
  clear hx
  rcases h with rfl | rfl | rfl | rfl | rfl | rfl | rfl | rfl
  all_goals
    go_enter Tryd.func35, Tryd.ntmps35
    go_wp2
    go_ret
    exact ⟨by kernel_rfl, rfl⟩

theorem sc_co (s : Int) (l : List Pl.T) (e : Int) : Pl.co (Pl.sc s l) e = s * Pl.co l e := by
  induction l with
  | nil => simp [Pl.sc, Pl.co_nil]
  | cons t l ih =>
    show Pl.co ((t.1, s * t.2) :: Pl.sc s l) e = _
    rw [Pl.co_cons, Pl.co_cons, ih, Int.mul_add]
    split <;> simp
theorem sc_snoc (s : Int) (l : List Pl.T) (x c : Int) : Pl.sc s (l ++ [(x, c)]) = Pl.sc s l ++ [(x, s * c)] := by simp [Pl.sc]
theorem sc_exps {s : Int} {l l' : List Pl.T} (h : ∀ t ∈ l, ∃ u ∈ l', u.1 = t.1) : ∀ t ∈ Pl.sc s l, ∃ u ∈ Pl.sc s l', u.1 = t.1 := by
  intro t ht
  obtain ⟨v, hv, rfl⟩ := List.mem_map.1 ht
  obtain ⟨u, hu, e⟩ := h v hv
  exact ⟨(u.1, s * u.2), List.mem_map.2 ⟨u, hu, rfl⟩, e⟩
set_option maxRecDepth 100000 in
set_option maxHeartbeats 1000000 in
theorem shift_any (va : Value) (s : Int) (la : List Pl.T) (na : Nat) (w : World) (ha : Wk w va la na) (hs : s = 1 ∨ s = -1) (hn : na ≤ 1000000) (he : Exps 1000000000 la) (hz : Pl.size la ≤ 1000000000000000000) :
    Calls Tryd.prog 36 #[va, .int .i64 0, .int .i64 s] w (GaveW (Pl.sc s la) na w) := by
  obtain ⟨b, D, rfl, ho, hd⟩ := ha
  have hlt := ho.lt
  have HO := Lib.hid ho
  have HD := Lib.hid hd
  have HE := Lib.hid he
  have HSS := Lib.hid hs
  have HS := Lib.hid hz
  have HZ := Lib.hid ho.size
  have s1 : -1 ≤ s := by omega
  have s2 : s ≤ 1 := by omega
  clear ho hd he hs hz
  have hmm := @run_makeMap Tryd.prog
  obtain ⟨B, HB⟩ : ∃ B, Hid (B = w.heap.size) := ⟨_, Lib.hid rfl⟩
  obtain ⟨wm, HWM⟩ : ∃ wm, Hid (wm = w.alloc (.map #[] 0)) := ⟨_, Lib.hid rfl⟩
  obtain ⟨r, HR⟩ : ∃ r, Hid (r = wm.heap.size) := ⟨_, Lib.hid rfl⟩
  have HFm : Hid (New w wm) := Lib.hid (by rw [HWM.out]; exact (Fr.refl _ _).alloc _)
  have HOm : Hid (OM wm b na D) := Lib.hid (New.om HFm.out HO.out)
  have HOB : Hid (OM wm B 0 (.map [])) := Lib.hid (by rw [HWM.out, HB.out]; exact World.ownsMap_made _ _ _ _)
  have hBr : B ≠ r := by
    rw [HR.out]
    have := HOB.out.lt
    omega
  have hb1 : b ≠ B := by rw [HB.out]; omega
  go_enter Tryd.func36, Tryd.ntmps36
  go_wp2_with (first
    | (at_range; rw [← HWM.out, ← HB.out]; refine wpList_range_own _ rfl _ 45 rfl 3 3 law3 ul45 _ b na _ rfl HOm.out ?_; intro w0 hrg0 hg0 hs0)
    | go_in)
  go_frame
  rw [← HR.out] at hrg0 hs0 ⊢
  have HF0 : Hid (New w w0) := Lib.hid (HFm.out.grown hg0 fun k ek => by cases ek)
  have HOB0 : Hid (OM w0 B 0 (.map [])) := Lib.hid (HOB.out.kept hg0 (by simp))
  have HR0 := Lib.hid (Rng.start HD.out hrg0)
  clear hrg0 hg0 hs0
  go_loopw [8, 9] (fun _ _ wr => ∃ (left : Lit → Bool) (cnt m : Nat) (Dout : DataW Unit) (done : List Pl.T), m + cnt ≤ na ∧ Hid (Rng wr b r na D la left cnt done) ∧ Hid (OM wr B m Dout) ∧ Hid (RD Dout (Pl.sc s done)) ∧ Hid (New w wr))
    (fun _ _ wr => wr.rangeLeft b r)
  case atStart => exact ⟨_, _, 0, .map [], [], by have := HZ.out; omega, HR0, HOB0, Lib.hid RD.empty, HF0⟩
  case round =>
    obtain ⟨left, cnt, m, Dout, done, hm, HRg, HOo, HDo, HF⟩ := hrel
    go_wp2_with (first
      | (at_next; refine wpList_next_ranges_ii _ rfl _ rfl 3 3 .i64 .i64 law3 Tryd.underlying3 Tryd.underlying3 b r na _ _ _ rfl HRg.out.rg ?_ ?_)
      | go_in)
    · intro hc0 hl0
      have HL0 := Lib.hid hl0
      clear hl0
      go_wp2
      go_ret
      exact ⟨_, rfl, ⟨_, Dout, rfl, HOo.out.mono (by omega), HDo.out.congr (fun e => by rw [sc_co, sc_co, HRg.out.all HL0.out]) (sc_exps HRg.out.part.exps)⟩, HF.out⟩
    · intro x c w2 cnt1 hwx hwc hlx hat hrg1 hlt1 hg1 hs1 hen
      have HR1 : Hid (Rng w2 b r na D la (fun z => left z && !z.sameKey (.int .i64 x)) cnt1 (done ++ [(x, c)])) := Lib.hid (HRg.out.step HD.out hlx hat hrg1)
      have hc0 : Pl.co (Pl.sc s done) x = 0 := by
        rw [sc_co, Pl.co_none fun t ht e => by
          have := HRg.out.part.gone t ht
          simp only [e] at this
          rw [hlx] at this
          cases this]
        simp
      have HO1 : Hid (OM w2 B m Dout) := Lib.hid (HOo.out.kept hg1 (by simpa using hBr))
      have HF1 : Hid (New w w2) := Lib.hid (HF.out.grown hg1 fun k ek => .inr (by cases ek; rw [HR.out]; exact HFm.out.size))
      obtain ⟨u, hu, hux⟩ := HR1.out.part.exps (x, c) (by simp)
      have hxe := HE.out u hu
      rw [hux] at hxe
      have x1 : -1000000000 ≤ x := hxe.1
      have x2 : x ≤ 1000000000 := hxe.2
      have hcb := (HD.out.at hat).1
      have hcl := Pl.co_le' HS.out x
      rw [← hcb] at hcl
      have c1 : -1000000000000000000 ≤ c := by omega
      have c2 : c ≤ 1000000000000000000 := by omega
      obtain ⟨p, HP⟩ : ∃ p, Hid (p = s * c) := ⟨_, Lib.hid rfl⟩
      have hp : p = c ∨ p = -c := by
        have := HP.out
        rcases HSS.out with e | e <;> rw [e] at this <;> omega
      have p1 : -1000000000000000000 ≤ p := by omega
      have p2 : p ≤ 1000000000000000000 := by omega
      have hw : wrap64 (c * s) = p := by rw [HP.out, Int.mul_comm]; exact IntWalk.wrap64_in _ (by rw [← HP.out]; omega)
      have HLT := Lib.hid hlt1
      have HC0 := Lib.hid hc0
      clear hwx hwc hlx hat hrg1 hg1 hs1 hu hux hxe hlt1 hcb hcl hp hc0
      go_wp2_with (first
        | (at_mapUpdate; refine wpList_mapUpdate_own _ rfl _ _ _ 45 rfl 3 3 law3 ul45 _ B m _ rfl HO1.out (by unfold maxLen; omega) _ _ _ rfl rfl (Maps.keyOf_int_mk Tryd.underlying3 (wf64 (by omega))) _ [] (plainElem_int Tryd.underlying3 (wf64 (by omega))) ?_; intro w3 hown2 hg2; go_frame)
        | go_in)
      have HO2 := Lib.hid hown2
      have HR2 := Lib.hid (HR1.out.kept hg2 (by simpa using hb1) (by simpa using hBr.symm))
      have HF2 : Hid (New w w3) := Lib.hid (HF1.out.grown hg2 fun k ek => .inr (by cases ek; rw [HB.out]; exact Nat.le_refl _))
      clear hown2 hg2
      go_roundw
      case rel => exact ⟨_, cnt1, m + 1, _, _, by have := HLT.out; omega, HR2, HO2, Lib.hid (by rw [sc_snoc]; exact RD.put HDo.out (by rw [HC0.out, hw, HP.out]; omega)), HF2⟩
      case measure => rw [HR2.out.rg.left_eq, HRg.out.rg.left_eq]; exact HLT.out
end Go.Proofs.YtjgmlicmjpgfcaaDoor
