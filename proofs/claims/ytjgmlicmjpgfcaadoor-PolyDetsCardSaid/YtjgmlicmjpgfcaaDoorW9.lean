/- Walks: both, Add, Mul, plus, times, Flip. -/
import Derived.Test.YtjgmlicmjpgfcaaDoorW8
namespace Go.Proofs.YtjgmlicmjpgfcaaDoor
open Go.RowKit

theorem may_exps {l : List Pl.T} (h : Pl.May l) : Exps 1000000000 l := fun t ht => by have := (h.2.2 t ht).1; omega
theorem size_len {l : List Pl.T} {S : Nat} (h : ∀ t ∈ l, t.2.natAbs ≤ S) : Pl.size l ≤ l.length * S := by
  induction l with
  | nil => exact Nat.zero_le _
  | cons t l ih =>
    have h1 := h t (by simp)
    have h2 := ih fun u hu => h u (by simp [hu])
    rw [Pl.size_cons, List.length_cons, Nat.add_mul]; omega
theorem may_size {l : List Pl.T} (h : Pl.May l) : Pl.size l ≤ 64000000 := by
  have h1 := size_len (l := l) (S := 1000000) fun t ht => by have := (h.2.2 t ht).2; omega
  have h2 : l.length * 1000000 ≤ 64 * 1000000 := Nat.mul_le_mul_right _ h.1
  omega
def GavePair (l : List Pl.T) (w : World) (e : Ending) (w' : World) : Prop := ∃ m v, Pl.Is m l ∧ e = .returned (.tuple #[v, .int .i64 0]) ∧ Ts w' v m ∧ New w w'

set_option maxRecDepth 100000 in
set_option maxHeartbeats 1000000 in
theorem both28_any (va vb : Value) (la lb : List Pl.T) (w : World) (ha : Ts w va la) (hb : Ts w vb lb) (ma : Pl.May la) (mb : Pl.May lb) :
    Calls Tryd.prog 27 #[va, vb, .func (.func 28) #[] #[]] w (GavePair (la ++ lb) w) := by
  have HA := Lib.hid ha
  have HB := Lib.hid hb
  have MA := Lib.hid ma
  have MB := Lib.hid mb
  clear ha hb ma mb
  go_enter Tryd.func27, Tryd.ntmps27
  go_wp2_with fail
  refine (may_any _ la _ HA.out MA.out).mono ?_
  rintro e w1 ⟨rfl, hn1⟩
  have HF1 := Lib.hid hn1
  clear hn1
  go_wp2_with fail
  refine (may_any _ lb _ (New.ts HF1.out HB.out) MB.out).mono ?_
  rintro e w2 ⟨rfl, hn2⟩
  have HF2 := Lib.hid (HF1.out.trans hn2)
  clear hn2
  go_wp2_with fail
  refine (of_any _ la _ (New.ts HF2.out HA.out) (by have := MA.out.1; omega) (may_exps MA.out) (by have := may_size MA.out; omega)).mono ?_
  rintro e w3 ⟨x, rfl, hx, hn3⟩
  have HF3 := Lib.hid (HF2.out.trans hn3)
  have HX := Lib.hid hx
  clear hn3 hx
  go_wp2_with fail
  refine (of_any _ lb _ (New.ts HF3.out HB.out) (by have := MB.out.1; omega) (may_exps MB.out) (by have := may_size MB.out; omega)).mono ?_
  rintro e w4 ⟨y, rfl, hy, hn4⟩
  have HF4 := Lib.hid (HF3.out.trans hn4)
  have HX4 := Lib.hid (New.wk hn4 HX.out)
  have HY := Lib.hid hy
  clear hn4 hy
  go_wp2_with fail
  refine (plusW_any _ _ la lb la.length lb.length _ HX4.out HY.out (by have := MA.out.1; have := MB.out.1; omega) (may_exps MB.out) (by have := may_size MA.out; have := may_size MB.out; omega)).mono ?_
  rintro e w5 ⟨z, rfl, hz, hn5⟩
  have HF5 := Lib.hid (HF4.out.trans hn5)
  have HZ := Lib.hid hz
  clear hn5 hz
  go_wp2_with fail
  refine (form_any _ _ _ _ HZ.out (by have := MA.out.1; have := MB.out.1; omega)).mono ?_
  rintro e w6 ⟨m, hm, v, rfl, hv, hn6⟩
  have HF6 := Lib.hid (HF5.out.trans hn6)
  have HM := Lib.hid hm
  have HV := Lib.hid hv
  clear hn6 hm hv
  go_wp2
  go_ret2
  exact ⟨m, v, HM.out, rfl, HV.out, HF6.out⟩

set_option maxRecDepth 100000 in
set_option maxHeartbeats 1000000 in
theorem both29_any (va vb : Value) (la lb : List Pl.T) (w : World) (ha : Ts w va la) (hb : Ts w vb lb) (ma : Pl.May la) (mb : Pl.May lb) :
    Calls Tryd.prog 27 #[va, vb, .func (.func 29) #[] #[]] w (GavePair (Pl.mul la lb) w) := by
  have HA := Lib.hid ha
  have HB := Lib.hid hb
  have MA := Lib.hid ma
  have MB := Lib.hid mb
  clear ha hb ma mb
  go_enter Tryd.func27, Tryd.ntmps27
  go_wp2_with fail
  refine (may_any _ la _ HA.out MA.out).mono ?_
  rintro e w1 ⟨rfl, hn1⟩
  have HF1 := Lib.hid hn1
  clear hn1
  go_wp2_with fail
  refine (may_any _ lb _ (New.ts HF1.out HB.out) MB.out).mono ?_
  rintro e w2 ⟨rfl, hn2⟩
  have HF2 := Lib.hid (HF1.out.trans hn2)
  clear hn2
  go_wp2_with fail
  refine (of_any _ la _ (New.ts HF2.out HA.out) (by have := MA.out.1; omega) (may_exps MA.out) (by have := may_size MA.out; omega)).mono ?_
  rintro e w3 ⟨x, rfl, hx, hn3⟩
  have HF3 := Lib.hid (HF2.out.trans hn3)
  have HX := Lib.hid hx
  clear hn3 hx
  go_wp2_with fail
  refine (of_any _ lb _ (New.ts HF3.out HB.out) (by have := MB.out.1; omega) (may_exps MB.out) (by have := may_size MB.out; omega)).mono ?_
  rintro e w4 ⟨y, rfl, hy, hn4⟩
  have HF4 := Lib.hid (HF3.out.trans hn4)
  have HX4 := Lib.hid (New.wk hn4 HX.out)
  have HY := Lib.hid hy
  clear hn4 hy
  go_wp2_with fail
  refine (timesW_any _ _ la lb la.length lb.length _ HX4.out HY.out (by have := Nat.mul_le_mul MA.out.1 MB.out.1; omega) (may_exps MA.out) (may_exps MB.out) (by have := Nat.mul_le_mul (may_size MA.out) (may_size MB.out); omega)).mono ?_
  rintro e w5 ⟨z, rfl, hz, hn5⟩
  have HF5 := Lib.hid (HF4.out.trans hn5)
  have HZ := Lib.hid hz
  clear hn5 hz
  go_wp2_with fail
  refine (form_any _ _ _ _ HZ.out (by have := Nat.mul_le_mul MA.out.1 MB.out.1; omega)).mono ?_
  rintro e w6 ⟨m, hm, v, rfl, hv, hn6⟩
  have HF6 := Lib.hid (HF5.out.trans hn6)
  have HM := Lib.hid hm
  have HV := Lib.hid hv
  clear hn6 hm hv
  go_wp2
  go_ret2
  exact ⟨m, v, HM.out, rfl, HV.out, HF6.out⟩

set_option maxHeartbeats 400000 in
theorem add_any (va vb : Value) (la lb : List Pl.T) (w : World) (ha : Ts w va la) (hb : Ts w vb lb) (ma : Pl.May la) (mb : Pl.May lb) :
    Calls Tryd.prog 14 #[va, vb] w (GavePair (la ++ lb) w) := by
  have CC := Lib.hid (both28_any va vb la lb w ha hb ma mb)
  clear ha hb ma mb
  go_enter Tryd.func14, Tryd.ntmps14
  go_wp2_with fail
  refine CC.out.mono ?_
  rintro e w1 ⟨m, v, hm, rfl, hv, hn⟩
  have HM := Lib.hid hm
  have HV := Lib.hid hv
  have HN := Lib.hid hn
  clear hm hv hn
  go_wp2
  go_ret2
  exact ⟨m, v, HM.out, rfl, HV.out, HN.out⟩

set_option maxHeartbeats 400000 in
theorem plus_any (va vb : Value) (la lb : List Pl.T) (w : World) (ha : Ts w va la) (hb : Ts w vb lb) (ma : Pl.May la) (mb : Pl.May lb) :
    Calls Tryd.prog 7 #[va, vb] w (GaveForm (la ++ lb) w) := by
  have CC := Lib.hid (add_any va vb la lb w ha hb ma mb)
  clear ha hb ma mb
  go_enter Tryd.func7, Tryd.ntmps7
  go_wp2_with fail
  refine CC.out.mono ?_
  rintro e w1 ⟨m, v, hm, rfl, hv, hn⟩
  have HM := Lib.hid hm
  have HV := Lib.hid hv
  have HN := Lib.hid hn
  clear hm hv hn
  go_wp2
  go_ret
  exact ⟨m, HM.out, v, rfl, HV.out, HN.out⟩

set_option maxHeartbeats 400000 in
theorem mul_any (va vb : Value) (la lb : List Pl.T) (w : World) (ha : Ts w va la) (hb : Ts w vb lb) (ma : Pl.May la) (mb : Pl.May lb) :
    Calls Tryd.prog 15 #[va, vb] w (GavePair (Pl.mul la lb) w) := by
  have CC := Lib.hid (both29_any va vb la lb w ha hb ma mb)
  clear ha hb ma mb
  go_enter Tryd.func15, Tryd.ntmps15
  go_wp2_with fail
  refine CC.out.mono ?_
  rintro e w1 ⟨m, v, hm, rfl, hv, hn⟩
  have HM := Lib.hid hm
  have HV := Lib.hid hv
  have HN := Lib.hid hn
  clear hm hv hn
  go_wp2
  go_ret2
  exact ⟨m, v, HM.out, rfl, HV.out, HN.out⟩

set_option maxHeartbeats 400000 in
theorem times_any (va vb : Value) (la lb : List Pl.T) (w : World) (ha : Ts w va la) (hb : Ts w vb lb) (ma : Pl.May la) (mb : Pl.May lb) :
    Calls Tryd.prog 8 #[va, vb] w (GaveForm (Pl.mul la lb) w) := by
  have CC := Lib.hid (mul_any va vb la lb w ha hb ma mb)
  clear ha hb ma mb
  go_enter Tryd.func8, Tryd.ntmps8
  go_wp2_with fail
  refine CC.out.mono ?_
  rintro e w1 ⟨m, v, hm, rfl, hv, hn⟩
  have HM := Lib.hid hm
  have HV := Lib.hid hv
  have HN := Lib.hid hn
  clear hm hv hn
  go_wp2
  go_ret
  exact ⟨m, HM.out, v, rfl, HV.out, HN.out⟩

theorem flip_snoc (l : List Pl.T) (x c : Int) : Pl.flip (l ++ [(x, c)]) = Pl.flip l ++ [(-x, c)] := by simp [Pl.flip]
theorem form_take : ∀ {l : List Pl.T}, Pl.Form l → ∀ k, k < l.length → ∀ t ∈ l.take k, t.1 < (l.getD k (0, 0)).1
  | [], _, _, h, _, _ => by simp at h
  | u :: l, _, 0, _, t, ht => by simp at ht
  | u :: l, hf, k + 1, h, t, ht => by
    have h' : k < l.length := by simpa using h
    simp only [List.getD_cons_succ]
    rw [List.take_succ_cons] at ht
    rcases List.mem_cons.1 ht with rfl | ht
    · rw [List.getD_eq_getElem?_getD, List.getElem?_eq_getElem h']
      exact hf.2.1 _ (List.getElem_mem h')
    · exact form_take hf.2.2 k h' t ht
theorem flip_at {l : List Pl.T} (h : Pl.May l) {k : Nat} (hk : k < l.length) : Pl.co (Pl.flip (l.take k)) (-(l.getD k (0, 0)).1) = 0 := by
  rw [Pl.co_flip, Int.neg_neg]
  exact Pl.co_none fun t ht => by have := form_take h.2.1 k hk t ht; omega

set_option maxRecDepth 100000 in
set_option maxHeartbeats 1000000 in
theorem flip_any (v : Value) (l : List Pl.T) (w : World) (hx : Ts w v l) (hm : Pl.May l) :
    Calls Tryd.prog 10 #[v] w (GavePair (Pl.flip l) w) := by
  have CC := Lib.hid (may_any v l w hx hm)
  obtain ⟨a, c, rfl, hx⟩ := hx
  obtain ⟨n, hn⟩ : ∃ n, n = l.length := ⟨_, rfl⟩
  rw [← hn] at CC
  have hl : n ≤ 64 := by rw [hn]; exact hm.1
  have HN := Lib.hid hn
  have HX := Lib.hid hx
  have HM := Lib.hid hm
  rw [← hn]
  clear hn hx hm
  have hmm := @run_makeMap Tryd.prog
  go_enter Tryd.func10, Tryd.ntmps10
  go_wp2_with fail
  refine CC.out.mono ?_
  rintro e w1 ⟨rfl, hn1⟩
  have HF1 := Lib.hid hn1
  have HX1 := Lib.hid (New.terms hn1 HX.out)
  clear hn1
  go_wp2
  go_loopw [13] (fun i wr => ∃ (k : Nat) (D : DataW Unit), k ≤ n ∧ i = .int .i64 k ∧ Hid (OM wr w1.heap.size k D) ∧ Hid (RD D (Pl.flip (l.take k))) ∧ Hid (New w1 wr)) (fun i _ => n - (intOf i).toNat)
  case atStart => exact ⟨0, .map [], by omega, rfl, Lib.hid (World.ownsMap_made _ _ _ _), Lib.hid (by rw [List.take_zero]; exact RD.empty), Lib.hid ((Fr.refl _ _).alloc _)⟩
  case round =>
    obtain ⟨k, D, hk, rfl, HO, HD, HF⟩ := hrel
    by_cases hlt : k < n
    · have hkl : k < l.length := by have := HN.out; omega
      obtain ⟨b, o, rfl, d1, d2⟩ := (New.terms HF.out HX1.out).at hkl
      have hb := may_at HM.out hkl
      have ht := take_getD hkl
      have hz := flip_at HM.out hkl
      obtain ⟨e1, H1⟩ : ∃ e, Hid (e = (l.getD k (0, 0)).1) := ⟨_, Lib.hid rfl⟩
      obtain ⟨e2, H2⟩ : ∃ e, Hid (e = (l.getD k (0, 0)).2) := ⟨_, Lib.hid rfl⟩
      rw [← H1.out] at d1 hb ht hz
      rw [← H2.out] at d2 ht hb
      obtain ⟨⟨b1, b2⟩, ⟨b3, b4⟩, b5⟩ := hb
      have HT := Lib.hid ht
      have HZ := Lib.hid hz
      clear ht hz b5
      go_wp2_with (first
        | (at_mapUpdate; refine wpList_mapUpdate_own _ rfl _ _ _ 45 rfl 3 3 law3 ul45 _ w1.heap.size k _ rfl (World.ownsMap.alloc HO.out _) (by unfold maxLen; omega) _ _ _ rfl rfl (Maps.keyOf_int_mk Tryd.underlying3 (wf64 (by omega))) _ [] (plainElem_int Tryd.underlying3 (wf64 (by omega))) ?_; intro w2 hown2 hg2)
        | go_in)
      have HO2 := Lib.hid hown2
      have HG2 := Lib.hid hg2
      clear hown2 hg2
      go_wp2
      go_roundw
      case rel => exact ⟨k + 1, _, by omega, by go_num, HO2, Lib.hid (by rw [HT.out, flip_snoc]; exact RD.put HD.out (by rw [HZ.out]; omega)), Lib.hid ((Fr.alloc HF.out _).grown HG2.out fun k ek => .inr (by cases ek; exact Nat.le_refl _))⟩
      case measure => simp [intOf]; omega
    · obtain rfl : k = n := by omega
      have HW : Hid (Wk wr (.map (some w1.heap.size)) (Pl.flip l) k) := Lib.hid ⟨_, D, rfl, HO.out, by have := HD.out; rwa [HN.out, List.take_length] at this⟩
      go_wp2_with fail
      refine (form_any _ _ _ _ HW.out (by omega)).mono ?_
      rintro e w6 ⟨m, hm, v, rfl, hv, hn6⟩
      have HF6 := Lib.hid (HF1.out.trans (HF.out.trans hn6))
      have HM := Lib.hid hm
      have HV := Lib.hid hv
      clear hn6 hm hv
      go_wp2
      go_ret2
      exact ⟨m, v, HM.out, rfl, HV.out, HF6.out⟩

end Go.Proofs.YtjgmlicmjpgfcaaDoor
