/- Walks: both, Add, Mul, plus, times, Flip. -/
import Derived.Test.YtdelekkbkpldjaaDoorP8
import Derived.Test.YtdelekkbkpldjaaDoorP3
import Derived.Test.YtdelekkbkpldjaaDoorQ5
namespace Go.Proofs.YtdelekkbkpldjaaDoor
open Go.RowKit

theorem may_exps {l : List Pl.T} (h : Pl.May l) : Exps 1000000000 l := fun t ht => by have := (h.2.2 t ht).1; omega
theorem size_len {l : List Pl.T} {S : Nat} (h : ∀ t ∈ l, t.2.natAbs ≤ S) : Pl.size l ≤ l.length * S := by
  induction l with
  | nil => exact Nat.zero_le _
  | cons t l ih =>
    have h1 := h t (by simp)
    have h2 := ih fun u hu => h u (by simp [hu])
    rw [Pl.size_cons, List.length_cons, Nat.add_mul]; omega
theorem may_size {l : List Pl.T} (h : Pl.May l) : Pl.size l ≤ 64000000 := by
  have h1 := size_len (l := l) (S := 1000000) fun t ht => by have := (h.2.2 t ht).2; omega
  have h2 : l.length * 1000000 ≤ 64 * 1000000 := Nat.mul_le_mul_right _ h.1
  omega
def GavePair (l : List Pl.T) (w : World) (e : Ending) (w' : World) : Prop := ∃ m v, Pl.Is m l ∧ e = .returned (.tuple #[v, .int .i64 0]) ∧ Ts w' v m ∧ New w w'
def GavePairO (l : List Pl.T) (w : World) (e : Ending) (w' : World) : Prop := ∃ m v, Pl.Is m l ∧ e = .returned (.tuple #[v, .int .i64 0]) ∧ OwnT 0 w' v m ∧ New w w'
theorem GavePairO.any {l : List Pl.T} {w w' : World} {e : Ending} (h : GavePairO l w e w') : GavePair l w e w' := by
  obtain ⟨m, v, hm, he, ho, hn⟩ := h
  exact ⟨m, v, hm, he, ho.ts, hn⟩

set_option maxRecDepth 100000 in
set_option maxHeartbeats 1000000 in
theorem both28O_any (va vb : Value) (la lb : List Pl.T) (w : World) (ha : Ts w va la) (hb : Ts w vb lb) (ma : Pl.May la) (mb : Pl.May lb) :
    Calls Tryd.prog 31 #[va, vb, .func (.func 30) #[] #[]] w (GavePairO (la ++ lb) w) := by
  have HA := Lib.hid ha
  have HB := Lib.hid hb
  have MA := Lib.hid ma
  have MB := Lib.hid mb
  clear ha hb ma mb
  go_enter Tryd.func31, Tryd.ntmps31
  go_wp2_with fail
  refine (may_any _ la _ HA.out MA.out).mono ?_
  rintro e w1 ⟨rfl, hn1⟩
  have HF1 := Lib.hid hn1
  clear hn1
  go_wp2_with fail
  refine (may_any _ lb _ (New.ts HF1.out HB.out) MB.out).mono ?_
  rintro e w2 ⟨rfl, hn2⟩
  have HF2 := Lib.hid (HF1.out.trans hn2)
  clear hn2
  go_wp2_with fail
  refine (of_any _ la _ (New.ts HF2.out HA.out) (by have := MA.out.1; omega) (may_exps MA.out) (by have := may_size MA.out; omega)).mono ?_
  rintro e w3 ⟨x, rfl, hx, hn3⟩
  have HF3 := Lib.hid (HF2.out.trans hn3)
  have HX := Lib.hid hx
  clear hn3 hx
  go_wp2_with fail
  refine (of_any _ lb _ (New.ts HF3.out HB.out) (by have := MB.out.1; omega) (may_exps MB.out) (by have := may_size MB.out; omega)).mono ?_
  rintro e w4 ⟨y, rfl, hy, hn4⟩
  have HF4 := Lib.hid (HF3.out.trans hn4)
  have HX4 := Lib.hid (New.wk hn4 HX.out)
  have HY := Lib.hid hy
  clear hn4 hy
  go_wp2_with fail
  refine (plusW_any _ _ la lb la.length lb.length _ HX4.out HY.out (by have := MA.out.1; have := MB.out.1; omega) (may_exps MB.out) (by have := may_size MA.out; have := may_size MB.out; omega)).mono ?_
  rintro e w5 ⟨z, rfl, hz, hn5⟩
  have HF5 := Lib.hid (HF4.out.trans hn5)
  have HZ := Lib.hid hz
  clear hn5 hz
  go_wp2_with fail
  refine (formO_any _ _ _ _ HZ.out (by have := MA.out.1; have := MB.out.1; omega)).mono ?_
  rintro e w6 ⟨m, hm, v, rfl, hv, hn6⟩
  have HF6 := Lib.hid (HF5.out.trans hn6)
  have HM := Lib.hid hm
  have HV := Lib.hid hv
  clear hn6 hm hv
  go_wp2
  go_ret2
  exact ⟨m, v, HM.out, rfl, HV.out, HF6.out⟩

set_option maxRecDepth 100000 in
set_option maxHeartbeats 1000000 in
theorem both29O_any (va vb : Value) (la lb : List Pl.T) (w : World) (ha : Ts w va la) (hb : Ts w vb lb) (ma : Pl.May la) (mb : Pl.May lb) :
    Calls Tryd.prog 31 #[va, vb, .func (.func 29) #[] #[]] w (GavePairO (Pl.mul la lb) w) := by
  have HA := Lib.hid ha
  have HB := Lib.hid hb
  have MA := Lib.hid ma
  have MB := Lib.hid mb
  clear ha hb ma mb
  go_enter Tryd.func31, Tryd.ntmps31
  go_wp2_with fail
  refine (may_any _ la _ HA.out MA.out).mono ?_
  rintro e w1 ⟨rfl, hn1⟩
  have HF1 := Lib.hid hn1
  clear hn1
  go_wp2_with fail
  refine (may_any _ lb _ (New.ts HF1.out HB.out) MB.out).mono ?_
  rintro e w2 ⟨rfl, hn2⟩
  have HF2 := Lib.hid (HF1.out.trans hn2)
  clear hn2
  go_wp2_with fail
  refine (of_any _ la _ (New.ts HF2.out HA.out) (by have := MA.out.1; omega) (may_exps MA.out) (by have := may_size MA.out; omega)).mono ?_
  rintro e w3 ⟨x, rfl, hx, hn3⟩
  have HF3 := Lib.hid (HF2.out.trans hn3)
  have HX := Lib.hid hx
  clear hn3 hx
  go_wp2_with fail
  refine (of_any _ lb _ (New.ts HF3.out HB.out) (by have := MB.out.1; omega) (may_exps MB.out) (by have := may_size MB.out; omega)).mono ?_
  rintro e w4 ⟨y, rfl, hy, hn4⟩
  have HF4 := Lib.hid (HF3.out.trans hn4)
  have HX4 := Lib.hid (New.wk hn4 HX.out)
  have HY := Lib.hid hy
  clear hn4 hy
  go_wp2_with fail
  refine (timesW_any _ _ la lb la.length lb.length _ HX4.out HY.out (by have := Nat.mul_le_mul MA.out.1 MB.out.1; omega) (may_exps MA.out) (may_exps MB.out) (by have := Nat.mul_le_mul (may_size MA.out) (may_size MB.out); omega)).mono ?_
  rintro e w5 ⟨z, rfl, hz, hn5⟩
  have HF5 := Lib.hid (HF4.out.trans hn5)
  have HZ := Lib.hid hz
  clear hn5 hz
  go_wp2_with fail
  refine (formO_any _ _ _ _ HZ.out (by have := Nat.mul_le_mul MA.out.1 MB.out.1; omega)).mono ?_
  rintro e w6 ⟨m, hm, v, rfl, hv, hn6⟩
  have HF6 := Lib.hid (HF5.out.trans hn6)
  have HM := Lib.hid hm
  have HV := Lib.hid hv
  clear hn6 hm hv
  go_wp2
  go_ret2
  exact ⟨m, v, HM.out, rfl, HV.out, HF6.out⟩

set_option maxHeartbeats 400000 in
theorem addO_any (va vb : Value) (la lb : List Pl.T) (w : World) (ha : Ts w va la) (hb : Ts w vb lb) (ma : Pl.May la) (mb : Pl.May lb) :
    Calls Tryd.prog 32 #[va, vb] w (GavePairO (la ++ lb) w) := by
  have CC := Lib.hid (both28O_any va vb la lb w ha hb ma mb)
  clear ha hb ma mb
  go_enter Tryd.func32, Tryd.ntmps32
  go_wp2_with fail
  refine CC.out.mono ?_
  rintro e w1 ⟨m, v, hm, rfl, hv, hn⟩
  have HM := Lib.hid hm
  have HV := Lib.hid hv
  have HN := Lib.hid hn
  clear hm hv hn
  go_wp2
  go_ret2
  exact ⟨m, v, HM.out, rfl, HV.out, HN.out⟩

set_option maxHeartbeats 400000 in
theorem plusO_any (va vb : Value) (la lb : List Pl.T) (w : World) (ha : Ts w va la) (hb : Ts w vb lb) (ma : Pl.May la) (mb : Pl.May lb) :
    Calls Tryd.prog 15 #[va, vb] w (GaveFormO (la ++ lb) w) := by
  have CC := Lib.hid (addO_any va vb la lb w ha hb ma mb)
  clear ha hb ma mb
  go_enter Tryd.func15, Tryd.ntmps15
  go_wp2_with fail
  refine CC.out.mono ?_
  rintro e w1 ⟨m, v, hm, rfl, hv, hn⟩
  have HM := Lib.hid hm
  have HV := Lib.hid hv
  have HN := Lib.hid hn
  clear hm hv hn
  go_wp2
  go_ret
  exact ⟨m, HM.out, v, rfl, HV.out, HN.out⟩

set_option maxHeartbeats 400000 in
theorem mulO_any (va vb : Value) (la lb : List Pl.T) (w : World) (ha : Ts w va la) (hb : Ts w vb lb) (ma : Pl.May la) (mb : Pl.May lb) :
    Calls Tryd.prog 14 #[va, vb] w (GavePairO (Pl.mul la lb) w) := by
  have CC := Lib.hid (both29O_any va vb la lb w ha hb ma mb)
  clear ha hb ma mb
  go_enter Tryd.func14, Tryd.ntmps14
  go_wp2_with fail
  refine CC.out.mono ?_
  rintro e w1 ⟨m, v, hm, rfl, hv, hn⟩
  have HM := Lib.hid hm
  have HV := Lib.hid hv
  have HN := Lib.hid hn
  clear hm hv hn
  go_wp2
  go_ret2
  exact ⟨m, v, HM.out, rfl, HV.out, HN.out⟩

end Go.Proofs.YtdelekkbkpldjaaDoor
