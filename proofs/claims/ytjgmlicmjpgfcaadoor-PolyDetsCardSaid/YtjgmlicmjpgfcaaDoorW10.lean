/- Walks: PolyRing. -/
import Derived.Test.YtjgmlicmjpgfcaaDoorW9
namespace Go.Proofs.YtjgmlicmjpgfcaaDoor
open Go.RowKit

/- in form, within bounds -/
def G (N : Int) (S : Nat) (m : List Pl.T) : Prop := Pl.Form m ∧ Pl.In N S m
theorem G.may {N : Int} {S : Nat} {m : List Pl.T} (h : G N S m) (hN : N ≤ 31) (hS : S ≤ 1000000) : Pl.May m := Pl.may_of h.1 h.2 hN hS
def GaveG (l : List Pl.T) (N : Int) (S : Nat) (w : World) (e : Ending) (w' : World) : Prop := ∃ m v, Pl.Is m l ∧ G N S m ∧ e = .returned v ∧ Ts w' v m ∧ New w w'
theorem plusG (va vb : Value) (la lb : List Pl.T) (N : Int) (S S' : Nat) (w : World) (ha : Ts w va la) (hb : Ts w vb lb) (ga : G N S la) (gb : G N S' lb) (hN : N ≤ 31) (hS : S ≤ 1000000) (hS' : S' ≤ 1000000) :
    Calls Tryd.prog 7 #[va, vb] w (GaveG (la ++ lb) N (S + S') w) := by
  refine (plus_any va vb la lb w ha hb (ga.may hN hS) (gb.may hN hS')).mono ?_
  rintro e w' ⟨m, hm, v, rfl, hv, hn⟩
  have hi := Pl.in_app ga.2 gb.2
  rw [Int.max_self] at hi
  exact ⟨m, v, hm, ⟨hm.1, Pl.in_form hm.1 hm.2 hi⟩, rfl, hv, hn⟩
theorem timesG (va vb : Value) (la lb : List Pl.T) (N N' : Int) (S S' : Nat) (w : World) (ha : Ts w va la) (hb : Ts w vb lb) (ga : G N S la) (gb : G N' S' lb) (hN : N ≤ 31) (hN' : N' ≤ 31) (hS : S ≤ 1000000) (hS' : S' ≤ 1000000) :
    Calls Tryd.prog 8 #[va, vb] w (GaveG (Pl.mul la lb) (N + N') (S * S') w) := by
  refine (times_any va vb la lb w ha hb (ga.may hN hS) (gb.may hN' hS')).mono ?_
  rintro e w' ⟨m, hm, v, rfl, hv, hn⟩
  exact ⟨m, v, hm, ⟨hm.1, Pl.in_form hm.1 hm.2 (Pl.in_mul ga.2 gb.2)⟩, rfl, hv, hn⟩
theorem G.len {N : Int} {S : Nat} {m : List Pl.T} (h : G N S m) (hN : N ≤ 31) (hS : S ≤ 1000000) : m.length ≤ 1000000 := by have := (h.may hN hS).1; omega
theorem sameT (va vb : Value) (x y : List Pl.T) (w : World) (hx : Ts w va x) (hy : Ts w vb y) (lx : x.length ≤ 1000000) (ly : y.length ≤ 1000000) (h : x = y) :
    Calls Tryd.prog 6 #[va, vb] w fun e w' => e = .returned (.bool true) ∧ New w w' := by
  refine (same_any va vb x y w hx hy lx ly).mono ?_
  rintro e w' ⟨rfl, hn⟩
  exact ⟨ret_bool (decide_eq_true h), hn⟩
theorem flipG (v : Value) (l : List Pl.T) (N : Int) (S : Nat) (w : World) (hx : Ts w v l) (g : G N S l) (hN : N ≤ 31) (hS : S ≤ 1000000) :
    Calls Tryd.prog 10 #[v] w fun e w' => ∃ m v, Pl.Is m (Pl.flip l) ∧ G N S m ∧ e = .returned (.tuple #[v, .int .i64 0]) ∧ Ts w' v m ∧ New w w' := by
  refine (flip_any v l w hx (g.may hN hS)).mono ?_
  rintro e w' ⟨m, v, hm, rfl, hv, hn⟩
  have hi : Pl.In N S (Pl.flip l) := by
    refine ⟨fun t ht => ?_, ?_⟩
    · obtain ⟨u, hu, rfl⟩ := List.mem_map.1 ht
      have := g.2.1 u hu
      show -N ≤ -u.1 ∧ -u.1 ≤ N
      omega
    · have : Pl.size (Pl.flip l) = Pl.size l := by
        have e : ((fun t : Pl.T => t.2.natAbs) ∘ fun t : Pl.T => ((-t.1, t.2) : Pl.T)) = fun t : Pl.T => t.2.natAbs := rfl
        simp [Pl.size, Pl.flip, e]
      rw [this]; exact g.2.2
  exact ⟨m, v, hm, ⟨hm.1, Pl.in_form hm.1 hm.2 hi⟩, rfl, hv, hn⟩
theorem vf_mul {t : Int} (x y : Int) : vf t (x + y) = vf t x * vf t y := by
  unfold vf
  by_cases c1 : t < 0 ∧ x % 2 ≠ 0 <;> by_cases c2 : t < 0 ∧ y % 2 ≠ 0
  · rw [if_pos c1, if_pos c2, if_neg (by omega)]; rfl
  · rw [if_pos c1, if_neg c2, if_pos (by omega)]; rfl
  · rw [if_neg c1, if_pos c2, if_pos (by omega)]; rfl
  · rw [if_neg c1, if_neg c2, if_neg (by omega)]; rfl
theorem val_le (t : Int) : ∀ l : List Pl.T, -(Pl.size l : Int) ≤ val t l ∧ val t l ≤ Pl.size l
  | [] => by simp [val, Pl.tot_nil]
  | u :: l => by
    have ih := val_le t l
    unfold val at ih ⊢
    rw [Pl.tot_cons, Pl.size_cons]
    by_cases c : t < 0 ∧ u.1 % 2 ≠ 0
    · rw [vf_neg _ _ c]; omega
    · rw [vf_one _ _ c]; omega
theorem val_bd {t : Int} {N : Int} {S : Nat} {l : List Pl.T} (g : G N S l) : -(S : Int) ≤ val t l ∧ val t l ≤ S := by
  have h1 := val_le t l
  have h2 := g.2.2
  omega
/- values of a sum, of a product -/
theorem atG (v : Value) (t : Int) (l : List Pl.T) (N : Int) (S : Nat) (w : World) (hx : Ts w v l) (g : G N S l) (hN : N ≤ 31) (hS : S ≤ 1000000) (ht : t = 1 ∨ t = -1) :
    Calls Tryd.prog 9 #[v, .int .i64 t] w fun e w' => ∃ z, e = .returned (.tuple #[.int .i64 z, .int .i64 0]) ∧ Hid (z = val t l) ∧ -(S : Int) ≤ z ∧ z ≤ S ∧ New w w' := by
  refine (at_any v t l w hx (g.may hN hS) ht).mono ?_
  rintro e w' ⟨rfl, hn⟩
  exact ⟨_, rfl, Lib.hid rfl, (val_bd g).1, (val_bd g).2, hn⟩
theorem val_one : val 1 [(0, 1)] = 1 := by decide
theorem one_G : G 0 1 [(0, 1)] := by
  refine ⟨⟨by decide, by simp, trivial⟩, fun t ht => ?_, by decide⟩
  rw [List.mem_singleton] at ht; subst ht; decide
theorem one_ts (w : World) : Ts (w.alloc (.cells #[.int .i64 0, .int .i64 1] 26)) (.slice (some ⟨w.heap.size, 0, none⟩) 1 1) [(0, 1)] := by
  refine ⟨_, _, rfl, .inr ⟨_, _, rfl, fun i hi => ?_⟩⟩
  obtain rfl : i = 0 := by simpa using hi
  have hg : (w.alloc (.cells #[Value.int .i64 0, Value.int .i64 1] 26)).heap[w.heap.size]? = some (.cells #[.int .i64 0, .int .i64 1] 26 (0, 0)) := heap_alloc_new w _
  exact ⟨(cell_of_row _ _ 0 _ 26 (0, 0) hg).trans rfl, (cell_of_row _ _ 1 _ 26 (0, 0) hg).trans rfl⟩
theorem oneAt (v : Value) (w : World) (hx : Ts w v [(0, 1)]) : Calls Tryd.prog 9 #[v, .int .i64 1] w fun e w' => e = .returned (.tuple #[.int .i64 1, .int .i64 0]) ∧ New w w' := by
  refine (at_any v 1 _ w hx (one_G.may (by omega) (by omega)) (.inl rfl)).mono ?_
  rintro e w' ⟨rfl, hn⟩
  exact ⟨by rw [val_one], hn⟩

set_option maxRecDepth 100000 in
set_option maxHeartbeats 4000000 in
theorem ring_any (a0 a1 a2 : Option Addr) (n0 n1 n2 c0 c1 c2 : Nat) (r0 r1 r2 : List Int) (w : World) (h0 : n0 = r0.length) (h1 : n1 = r1.length) (h2 : n2 = r2.length)
    (x0 : IntsAt w a0 r0) (x1 : IntsAt w a1 r1) (x2 : IntsAt w a2 r2) (b0 : r0.length ≤ 9223372036854775807) (b1 : r1.length ≤ 9223372036854775807) (b2 : r2.length ≤ 9223372036854775807) (q0 : Raw r0) (q1 : Raw r1) (q2 : Raw r2) :
    Calls Tryd.prog 3 #[.slice a0 n0 c0, .slice a1 n1 c1, .slice a2 n2 c2] w fun e w' => e = .returned (.bool true) ∧ New w w' := by
  have X0 := Lib.hid x0
  have X1 := Lib.hid x1
  have X2 := Lib.hid x2
  have B0 := Lib.hid b0
  have B1 := Lib.hid b1
  have B2 := Lib.hid b2
  have Q0 := Lib.hid q0
  have Q1 := Lib.hid q1
  have Q2 := Lib.hid q2
  have E0 := Lib.hid h0
  have E1 := Lib.hid h1
  have E2 := Lib.hid h2
  have LE : n0 ≤ 9223372036854775807 ∧ n1 ≤ 9223372036854775807 ∧ n2 ≤ 9223372036854775807 := by omega
  obtain ⟨le0, le1, le2⟩ := LE
  clear x0 x1 x2 b0 b1 b2 q0 q1 q2 h0 h1 h2
  go_enter Tryd.func3, Tryd.ntmps3
  go_wp2_with fail
  refine (small_any _ n0 _ r0 _ E0.out (X0.out) B0.out Q0.out).mono ?_
  rintro e w1 ⟨va, rfl, ht, hn⟩
  obtain ⟨la, hl⟩ : ∃ l, l = sm r0 := ⟨_, rfl⟩
  rw [← hl] at ht
  have Ga : Hid (G 4 81 la) := Lib.hid (by rw [hl]; exact sm_in _)
  have Ta := Lib.hid ht
  have HN1 := Lib.hid hn
  clear ht hn hl
  go_wp2_with fail
  refine (small_any _ n1 _ r1 _ E1.out (New.ints HN1.out X1.out) B1.out Q1.out).mono ?_
  rintro e w2 ⟨vb, rfl, ht, hn⟩
  obtain ⟨lb, hl⟩ : ∃ l, l = sm r1 := ⟨_, rfl⟩
  rw [← hl] at ht
  have Gb : Hid (G 4 81 lb) := Lib.hid (by rw [hl]; exact sm_in _)
  have Tb := Lib.hid ht
  have HN2 := Lib.hid hn
  clear ht hn hl
  go_wp2_with fail
  refine (small_any _ n2 _ r2 _ E2.out (New.ints (HN1.out.trans HN2.out) X2.out) B2.out Q2.out).mono ?_
  rintro e w3 ⟨vc, rfl, ht, hn⟩
  obtain ⟨lc, hl⟩ : ∃ l, l = sm r2 := ⟨_, rfl⟩
  rw [← hl] at ht
  have Gc : Hid (G 4 81 lc) := Lib.hid (by rw [hl]; exact sm_in _)
  have Tc := Lib.hid ht
  have HN3 := Lib.hid hn
  clear ht hn hl
  obtain ⟨w4, HW4⟩ : ∃ w4, Hid (w4 = w3.alloc (.cells #[.int .i64 0, .int .i64 1] 26)) := ⟨_, Lib.hid rfl⟩
  obtain ⟨vo, HVO⟩ : ∃ vo, Hid (vo = Value.slice (some ⟨w3.heap.size, 0, none⟩) 1 1) := ⟨_, Lib.hid rfl⟩
  have HN4 : Hid (New w3 w4) := Lib.hid (by rw [HW4.out]; exact (Fr.refl _ _).alloc _)
  have To : Hid (Ts w4 vo [(0, 1)]) := Lib.hid (by rw [HW4.out, HVO.out]; exact one_ts _)
  have Go : Hid (G 0 1 [(0, 1)]) := Lib.hid one_G
  go_wp2_with fail
  rw [← HW4.out, ← HVO.out]
  go_wp2_with fail
  refine (plusG _ _ _ _ 4 81 81 _ (New.ts ((HN2.out.trans HN3.out).trans HN4.out) Ta.out) (New.ts (HN3.out.trans HN4.out) Tb.out) Ga.out Gb.out (by omega) (by omega) (by omega)).mono ?_
  rintro e w5 ⟨lp1, vp1, hi, hg, rfl, ht, hn⟩
  have Ip1 := Lib.hid hi
  have Gp1 : Hid (G 4 162 lp1) := Lib.hid hg
  have Tp1 := Lib.hid ht
  have HN5 := Lib.hid hn
  clear hi hg ht hn
  go_wp2_with fail
  refine (plusG _ _ _ _ 4 81 81 _ (New.ts ((HN3.out.trans HN4.out).trans HN5.out) Tb.out) (New.ts (((HN2.out.trans HN3.out).trans HN4.out).trans HN5.out) Ta.out) Gb.out Ga.out (by omega) (by omega) (by omega)).mono ?_
  rintro e w6 ⟨lp2, vp2, hi, hg, rfl, ht, hn⟩
  have Ip2 := Lib.hid hi
  have Gp2 : Hid (G 4 162 lp2) := Lib.hid hg
  have Tp2 := Lib.hid ht
  have HN6 := Lib.hid hn
  clear hi hg ht hn
  go_wp2_with fail
  refine (sameT _ _ _ _ _ (New.ts HN6.out Tp1.out) Tp2.out (Gp1.out.len (by omega) (by omega)) (Gp2.out.len (by omega) (by omega)) (Pl.add_comm' Ip1.out Ip2.out)).mono ?_
  rintro e w7 ⟨rfl, hn⟩
  have HN7 := Lib.hid hn
  clear hn
  go_wp2_with fail
  refine (timesG _ _ _ _ 4 4 81 81 _ (New.ts (((((HN2.out.trans HN3.out).trans HN4.out).trans HN5.out).trans HN6.out).trans HN7.out) Ta.out) (New.ts ((((HN3.out.trans HN4.out).trans HN5.out).trans HN6.out).trans HN7.out) Tb.out) Ga.out Gb.out (by omega) (by omega) (by omega) (by omega)).mono ?_
  rintro e w8 ⟨lq1, vq1, hi, hg, rfl, ht, hn⟩
  have Iq1 := Lib.hid hi
  have Gq1 : Hid (G 8 6561 lq1) := Lib.hid hg
  have Tq1 := Lib.hid ht
  have HN8 := Lib.hid hn
  clear hi hg ht hn
  go_wp2_with fail
  refine (timesG _ _ _ _ 4 4 81 81 _ (New.ts (((((HN3.out.trans HN4.out).trans HN5.out).trans HN6.out).trans HN7.out).trans HN8.out) Tb.out) (New.ts ((((((HN2.out.trans HN3.out).trans HN4.out).trans HN5.out).trans HN6.out).trans HN7.out).trans HN8.out) Ta.out) Gb.out Ga.out (by omega) (by omega) (by omega) (by omega)).mono ?_
  rintro e w9 ⟨lq2, vq2, hi, hg, rfl, ht, hn⟩
  have Iq2 := Lib.hid hi
  have Gq2 : Hid (G 8 6561 lq2) := Lib.hid hg
  have Tq2 := Lib.hid ht
  have HN9 := Lib.hid hn
  clear hi hg ht hn
  go_wp2_with fail
  refine (sameT _ _ _ _ _ (New.ts HN9.out Tq1.out) Tq2.out (Gq1.out.len (by omega) (by omega)) (Gq2.out.len (by omega) (by omega)) (Pl.mul_comm' Iq1.out Iq2.out)).mono ?_
  rintro e w10 ⟨rfl, hn⟩
  have HN10 := Lib.hid hn
  clear hn
  go_wp2_with fail
  refine (plusG _ _ _ _ 4 81 81 _ (New.ts ((((((((HN2.out.trans HN3.out).trans HN4.out).trans HN5.out).trans HN6.out).trans HN7.out).trans HN8.out).trans HN9.out).trans HN10.out) Ta.out) (New.ts (((((((HN3.out.trans HN4.out).trans HN5.out).trans HN6.out).trans HN7.out).trans HN8.out).trans HN9.out).trans HN10.out) Tb.out) Ga.out Gb.out (by omega) (by omega) (by omega)).mono ?_
  rintro e w11 ⟨lr1, vr1, hi, hg, rfl, ht, hn⟩
  have Ir1 := Lib.hid hi
  have Gr1 : Hid (G 4 162 lr1) := Lib.hid hg
  have Tr1 := Lib.hid ht
  have HN11 := Lib.hid hn
  clear hi hg ht hn
  go_wp2_with fail
  refine (plusG _ _ _ _ 4 162 81 _ Tr1.out (New.ts (((((((HN4.out.trans HN5.out).trans HN6.out).trans HN7.out).trans HN8.out).trans HN9.out).trans HN10.out).trans HN11.out) Tc.out) Gr1.out Gc.out (by omega) (by omega) (by omega)).mono ?_
  rintro e w12 ⟨lr2, vr2, hi, hg, rfl, ht, hn⟩
  have Ir2 := Lib.hid hi
  have Gr2 : Hid (G 4 243 lr2) := Lib.hid hg
  have Tr2 := Lib.hid ht
  have HN12 := Lib.hid hn
  clear hi hg ht hn
  go_wp2_with fail
  refine (plusG _ _ _ _ 4 81 81 _ (New.ts (((((((((HN3.out.trans HN4.out).trans HN5.out).trans HN6.out).trans HN7.out).trans HN8.out).trans HN9.out).trans HN10.out).trans HN11.out).trans HN12.out) Tb.out) (New.ts ((((((((HN4.out.trans HN5.out).trans HN6.out).trans HN7.out).trans HN8.out).trans HN9.out).trans HN10.out).trans HN11.out).trans HN12.out) Tc.out) Gb.out Gc.out (by omega) (by omega) (by omega)).mono ?_
  rintro e w13 ⟨lr3, vr3, hi, hg, rfl, ht, hn⟩
  have Ir3 := Lib.hid hi
  have Gr3 : Hid (G 4 162 lr3) := Lib.hid hg
  have Tr3 := Lib.hid ht
  have HN13 := Lib.hid hn
  clear hi hg ht hn
  go_wp2_with fail
  refine (plusG _ _ _ _ 4 81 162 _ (New.ts (((((((((((HN2.out.trans HN3.out).trans HN4.out).trans HN5.out).trans HN6.out).trans HN7.out).trans HN8.out).trans HN9.out).trans HN10.out).trans HN11.out).trans HN12.out).trans HN13.out) Ta.out) Tr3.out Ga.out Gr3.out (by omega) (by omega) (by omega)).mono ?_
  rintro e w14 ⟨lr4, vr4, hi, hg, rfl, ht, hn⟩
  have Ir4 := Lib.hid hi
  have Gr4 : Hid (G 4 243 lr4) := Lib.hid hg
  have Tr4 := Lib.hid ht
  have HN14 := Lib.hid hn
  clear hi hg ht hn
  go_wp2_with fail
  refine (sameT _ _ _ _ _ (New.ts (HN13.out.trans HN14.out) Tr2.out) Tr4.out (Gr2.out.len (by omega) (by omega)) (Gr4.out.len (by omega) (by omega)) (Pl.add_assoc' Ir1.out Ir2.out Ir3.out Ir4.out)).mono ?_
  rintro e w15 ⟨rfl, hn⟩
  have HN15 := Lib.hid hn
  clear hn
  go_wp2_with fail
  refine (timesG _ _ _ _ 4 4 81 81 _ (New.ts (((((((((((((HN2.out.trans HN3.out).trans HN4.out).trans HN5.out).trans HN6.out).trans HN7.out).trans HN8.out).trans HN9.out).trans HN10.out).trans HN11.out).trans HN12.out).trans HN13.out).trans HN14.out).trans HN15.out) Ta.out) (New.ts ((((((((((((HN3.out.trans HN4.out).trans HN5.out).trans HN6.out).trans HN7.out).trans HN8.out).trans HN9.out).trans HN10.out).trans HN11.out).trans HN12.out).trans HN13.out).trans HN14.out).trans HN15.out) Tb.out) Ga.out Gb.out (by omega) (by omega) (by omega) (by omega)).mono ?_
  rintro e w16 ⟨lt1, vt1, hi, hg, rfl, ht, hn⟩
  have It1 := Lib.hid hi
  have Gt1 : Hid (G 8 6561 lt1) := Lib.hid hg
  have Tt1 := Lib.hid ht
  have HN16 := Lib.hid hn
  clear hi hg ht hn
  go_wp2_with fail
  refine (timesG _ _ _ _ 8 4 6561 81 _ Tt1.out (New.ts ((((((((((((HN4.out.trans HN5.out).trans HN6.out).trans HN7.out).trans HN8.out).trans HN9.out).trans HN10.out).trans HN11.out).trans HN12.out).trans HN13.out).trans HN14.out).trans HN15.out).trans HN16.out) Tc.out) Gt1.out Gc.out (by omega) (by omega) (by omega) (by omega)).mono ?_
  rintro e w17 ⟨lt2, vt2, hi, hg, rfl, ht, hn⟩
  have It2 := Lib.hid hi
  have Gt2 : Hid (G 12 531441 lt2) := Lib.hid hg
  have Tt2 := Lib.hid ht
  have HN17 := Lib.hid hn
  clear hi hg ht hn
  go_wp2_with fail
  refine (timesG _ _ _ _ 4 4 81 81 _ (New.ts ((((((((((((((HN3.out.trans HN4.out).trans HN5.out).trans HN6.out).trans HN7.out).trans HN8.out).trans HN9.out).trans HN10.out).trans HN11.out).trans HN12.out).trans HN13.out).trans HN14.out).trans HN15.out).trans HN16.out).trans HN17.out) Tb.out) (New.ts (((((((((((((HN4.out.trans HN5.out).trans HN6.out).trans HN7.out).trans HN8.out).trans HN9.out).trans HN10.out).trans HN11.out).trans HN12.out).trans HN13.out).trans HN14.out).trans HN15.out).trans HN16.out).trans HN17.out) Tc.out) Gb.out Gc.out (by omega) (by omega) (by omega) (by omega)).mono ?_
  rintro e w18 ⟨lt3, vt3, hi, hg, rfl, ht, hn⟩
  have It3 := Lib.hid hi
  have Gt3 : Hid (G 8 6561 lt3) := Lib.hid hg
  have Tt3 := Lib.hid ht
  have HN18 := Lib.hid hn
  clear hi hg ht hn
  go_wp2_with fail
  refine (timesG _ _ _ _ 4 8 81 6561 _ (New.ts ((((((((((((((((HN2.out.trans HN3.out).trans HN4.out).trans HN5.out).trans HN6.out).trans HN7.out).trans HN8.out).trans HN9.out).trans HN10.out).trans HN11.out).trans HN12.out).trans HN13.out).trans HN14.out).trans HN15.out).trans HN16.out).trans HN17.out).trans HN18.out) Ta.out) Tt3.out Ga.out Gt3.out (by omega) (by omega) (by omega) (by omega)).mono ?_
  rintro e w19 ⟨lt4, vt4, hi, hg, rfl, ht, hn⟩
  have It4 := Lib.hid hi
  have Gt4 : Hid (G 12 531441 lt4) := Lib.hid hg
  have Tt4 := Lib.hid ht
  have HN19 := Lib.hid hn
  clear hi hg ht hn
  go_wp2_with fail
  refine (sameT _ _ _ _ _ (New.ts (HN18.out.trans HN19.out) Tt2.out) Tt4.out (Gt2.out.len (by omega) (by omega)) (Gt4.out.len (by omega) (by omega)) (Pl.mul_assoc' It1.out It2.out It3.out It4.out)).mono ?_
  rintro e w20 ⟨rfl, hn⟩
  have HN20 := Lib.hid hn
  clear hn
  go_wp2_with fail
  refine (plusG _ _ _ _ 4 81 81 _ (New.ts (((((((((((((((((HN3.out.trans HN4.out).trans HN5.out).trans HN6.out).trans HN7.out).trans HN8.out).trans HN9.out).trans HN10.out).trans HN11.out).trans HN12.out).trans HN13.out).trans HN14.out).trans HN15.out).trans HN16.out).trans HN17.out).trans HN18.out).trans HN19.out).trans HN20.out) Tb.out) (New.ts ((((((((((((((((HN4.out.trans HN5.out).trans HN6.out).trans HN7.out).trans HN8.out).trans HN9.out).trans HN10.out).trans HN11.out).trans HN12.out).trans HN13.out).trans HN14.out).trans HN15.out).trans HN16.out).trans HN17.out).trans HN18.out).trans HN19.out).trans HN20.out) Tc.out) Gb.out Gc.out (by omega) (by omega) (by omega)).mono ?_
  rintro e w21 ⟨lu1, vu1, hi, hg, rfl, ht, hn⟩
  have Iu1 := Lib.hid hi
  have Gu1 : Hid (G 4 162 lu1) := Lib.hid hg
  have Tu1 := Lib.hid ht
  have HN21 := Lib.hid hn
  clear hi hg ht hn
  go_wp2_with fail
  refine (timesG _ _ _ _ 4 4 81 162 _ (New.ts (((((((((((((((((((HN2.out.trans HN3.out).trans HN4.out).trans HN5.out).trans HN6.out).trans HN7.out).trans HN8.out).trans HN9.out).trans HN10.out).trans HN11.out).trans HN12.out).trans HN13.out).trans HN14.out).trans HN15.out).trans HN16.out).trans HN17.out).trans HN18.out).trans HN19.out).trans HN20.out).trans HN21.out) Ta.out) Tu1.out Ga.out Gu1.out (by omega) (by omega) (by omega) (by omega)).mono ?_
  rintro e w22 ⟨lu2, vu2, hi, hg, rfl, ht, hn⟩
  have Iu2 := Lib.hid hi
  have Gu2 : Hid (G 8 13122 lu2) := Lib.hid hg
  have Tu2 := Lib.hid ht
  have HN22 := Lib.hid hn
  clear hi hg ht hn
  go_wp2_with fail
  refine (timesG _ _ _ _ 4 4 81 81 _ (New.ts ((((((((((((((((((((HN2.out.trans HN3.out).trans HN4.out).trans HN5.out).trans HN6.out).trans HN7.out).trans HN8.out).trans HN9.out).trans HN10.out).trans HN11.out).trans HN12.out).trans HN13.out).trans HN14.out).trans HN15.out).trans HN16.out).trans HN17.out).trans HN18.out).trans HN19.out).trans HN20.out).trans HN21.out).trans HN22.out) Ta.out) (New.ts (((((((((((((((((((HN3.out.trans HN4.out).trans HN5.out).trans HN6.out).trans HN7.out).trans HN8.out).trans HN9.out).trans HN10.out).trans HN11.out).trans HN12.out).trans HN13.out).trans HN14.out).trans HN15.out).trans HN16.out).trans HN17.out).trans HN18.out).trans HN19.out).trans HN20.out).trans HN21.out).trans HN22.out) Tb.out) Ga.out Gb.out (by omega) (by omega) (by omega) (by omega)).mono ?_
  rintro e w23 ⟨lu3, vu3, hi, hg, rfl, ht, hn⟩
  have Iu3 := Lib.hid hi
  have Gu3 : Hid (G 8 6561 lu3) := Lib.hid hg
  have Tu3 := Lib.hid ht
  have HN23 := Lib.hid hn
  clear hi hg ht hn
  go_wp2_with fail
  refine (timesG _ _ _ _ 4 4 81 81 _ (New.ts (((((((((((((((((((((HN2.out.trans HN3.out).trans HN4.out).trans HN5.out).trans HN6.out).trans HN7.out).trans HN8.out).trans HN9.out).trans HN10.out).trans HN11.out).trans HN12.out).trans HN13.out).trans HN14.out).trans HN15.out).trans HN16.out).trans HN17.out).trans HN18.out).trans HN19.out).trans HN20.out).trans HN21.out).trans HN22.out).trans HN23.out) Ta.out) (New.ts (((((((((((((((((((HN4.out.trans HN5.out).trans HN6.out).trans HN7.out).trans HN8.out).trans HN9.out).trans HN10.out).trans HN11.out).trans HN12.out).trans HN13.out).trans HN14.out).trans HN15.out).trans HN16.out).trans HN17.out).trans HN18.out).trans HN19.out).trans HN20.out).trans HN21.out).trans HN22.out).trans HN23.out) Tc.out) Ga.out Gc.out (by omega) (by omega) (by omega) (by omega)).mono ?_
  rintro e w24 ⟨lu4, vu4, hi, hg, rfl, ht, hn⟩
  have Iu4 := Lib.hid hi
  have Gu4 : Hid (G 8 6561 lu4) := Lib.hid hg
  have Tu4 := Lib.hid ht
  have HN24 := Lib.hid hn
  clear hi hg ht hn
  go_wp2_with fail
  refine (plusG _ _ _ _ 8 6561 6561 _ (New.ts HN24.out Tu3.out) Tu4.out Gu3.out Gu4.out (by omega) (by omega) (by omega)).mono ?_
  rintro e w25 ⟨lu5, vu5, hi, hg, rfl, ht, hn⟩
  have Iu5 := Lib.hid hi
  have Gu5 : Hid (G 8 13122 lu5) := Lib.hid hg
  have Tu5 := Lib.hid ht
  have HN25 := Lib.hid hn
  clear hi hg ht hn
  go_wp2_with fail
  refine (sameT _ _ _ _ _ (New.ts ((HN23.out.trans HN24.out).trans HN25.out) Tu2.out) Tu5.out (Gu2.out.len (by omega) (by omega)) (Gu5.out.len (by omega) (by omega)) (Pl.mul_dist' Iu1.out Iu2.out Iu3.out Iu4.out Iu5.out)).mono ?_
  rintro e w26 ⟨rfl, hn⟩
  have HN26 := Lib.hid hn
  clear hn
  go_wp2_with fail
  refine (timesG _ _ _ _ 4 0 81 1 _ (New.ts ((((((((((((((((((((((((HN2.out.trans HN3.out).trans HN4.out).trans HN5.out).trans HN6.out).trans HN7.out).trans HN8.out).trans HN9.out).trans HN10.out).trans HN11.out).trans HN12.out).trans HN13.out).trans HN14.out).trans HN15.out).trans HN16.out).trans HN17.out).trans HN18.out).trans HN19.out).trans HN20.out).trans HN21.out).trans HN22.out).trans HN23.out).trans HN24.out).trans HN25.out).trans HN26.out) Ta.out) (New.ts (((((((((((((((((((((HN5.out.trans HN6.out).trans HN7.out).trans HN8.out).trans HN9.out).trans HN10.out).trans HN11.out).trans HN12.out).trans HN13.out).trans HN14.out).trans HN15.out).trans HN16.out).trans HN17.out).trans HN18.out).trans HN19.out).trans HN20.out).trans HN21.out).trans HN22.out).trans HN23.out).trans HN24.out).trans HN25.out).trans HN26.out) To.out) Ga.out Go.out (by omega) (by omega) (by omega) (by omega)).mono ?_
  rintro e w27 ⟨lo1, vo1, hi, hg, rfl, ht, hn⟩
  have Io1 := Lib.hid hi
  have Go1 : Hid (G 4 81 lo1) := Lib.hid hg
  have To1 := Lib.hid ht
  have HN27 := Lib.hid hn
  clear hi hg ht hn
  go_wp2_with fail
  refine (sameT _ _ _ _ _ To1.out (New.ts (((((((((((((((((((((((((HN2.out.trans HN3.out).trans HN4.out).trans HN5.out).trans HN6.out).trans HN7.out).trans HN8.out).trans HN9.out).trans HN10.out).trans HN11.out).trans HN12.out).trans HN13.out).trans HN14.out).trans HN15.out).trans HN16.out).trans HN17.out).trans HN18.out).trans HN19.out).trans HN20.out).trans HN21.out).trans HN22.out).trans HN23.out).trans HN24.out).trans HN25.out).trans HN26.out).trans HN27.out) Ta.out) (Go1.out.len (by omega) (by omega)) (Ga.out.len (by omega) (by omega)) (Pl.mul_one' Ga.out.1 Io1.out)).mono ?_
  rintro e w28 ⟨rfl, hn⟩
  have HN28 := Lib.hid hn
  clear hn
  have HNA : Hid (New w4 w28) := Lib.hid (((((((((((((((((((((((HN5.out.trans HN6.out).trans HN7.out).trans HN8.out).trans HN9.out).trans HN10.out).trans HN11.out).trans HN12.out).trans HN13.out).trans HN14.out).trans HN15.out).trans HN16.out).trans HN17.out).trans HN18.out).trans HN19.out).trans HN20.out).trans HN21.out).trans HN22.out).trans HN23.out).trans HN24.out).trans HN25.out).trans HN26.out).trans HN27.out).trans HN28.out)
  have TA : Hid (Ts w4 va la) := Lib.hid (New.ts ((HN2.out.trans HN3.out).trans HN4.out) Ta.out)
  have TB : Hid (Ts w4 vb lb) := Lib.hid (New.ts (HN3.out.trans HN4.out) Tb.out)
  have HN0 : Hid (New w w4) := Lib.hid (((HN1.out.trans HN2.out).trans HN3.out).trans HN4.out)
  clear HN1 HN2 HN3 HN4 HN5 HN6 HN7 HN8 HN9 HN10 HN11 HN12 HN13 HN14 HN15 HN16 HN17 HN18 HN19 HN20 HN21 HN22 HN23 HN24 HN25 HN26 HN27 HN28 Tp1 Gp1 Ip1 Tp2 Gp2 Ip2 Tq1 Gq1 Iq1 Tq2 Gq2 Iq2 Tr1 Gr1 Ir1 Tr2 Gr2 Ir2 Tr3 Gr3 Ir3 Tr4 Gr4 Ir4 Tt1 Gt1 It1 Tt2 Gt2 It2 Tt3 Gt3 It3 Tt4 Gt4 It4 Tu1 Gu1 Iu1 Tu2 Gu2 Iu2 Tu3 Gu3 Iu3 Tu4 Gu4 Iu4 Tu5 Gu5 Iu5 To1 Go1 Io1 X0 X1 X2 B0 B1 B2 Q0 Q1 Q2 E0 E1 E2 Tc Gc
  go_wp2
  go_loopw [11] (fun t wr => ∃ z : Int, t = .int .i64 z ∧ (z = -1 ∨ z = 1 ∨ z = 3) ∧ Hid (New w4 wr)) (fun t _ => (4 - intOf t).toNat)
  case atStart => exact ⟨-1, rfl, .inl rfl, HNA⟩
  case round =>
    obtain ⟨z, rfl, hz, HF⟩ := hrel
    by_cases h3 : z = 3
    · subst h3
      clear hz
      have HNB : Hid (New w4 wr) := HF
      go_wp2_with fail
      refine (flipG _ _ 4 81 _ (New.ts HNB.out TA.out) Ga.out (by omega) (by omega)).mono ?_
      rintro e wa ⟨lf, vf1, hi, hg, rfl, ht, hn⟩
      have If := Lib.hid hi
      have Gf := Lib.hid hg
      have Tf := Lib.hid ht
      have HFa : Hid (New w4 wa) := Lib.hid (HNB.out.trans hn)
      clear hi hg ht hn
      go_wp2_with fail
      refine (flipG _ _ 4 81 _ Tf.out Gf.out (by omega) (by omega)).mono ?_
      rintro e wb ⟨lg, vg, hi, hg, rfl, ht, hn⟩
      have Ig := Lib.hid hi
      have Gg := Lib.hid hg
      have Tg := Lib.hid ht
      have HFb : Hid (New w4 wb) := Lib.hid (HFa.out.trans hn)
      clear hi hg ht hn
      go_wp2_with fail
      refine (oneAt _ _ (New.ts HFb.out To.out)).mono ?_
      rintro e wc ⟨rfl, hn⟩
      have HFc : Hid (New w4 wc) := Lib.hid (HFb.out.trans hn)
      have HNg : Hid (New wb wc) := Lib.hid hn
      clear hn
      go_wp2_with fail
      refine (sameT _ _ _ _ _ (New.ts HNg.out Tg.out) (New.ts HFc.out TA.out) (Gg.out.len (by omega) (by omega)) (Ga.out.len (by omega) (by omega)) (Pl.flip_flip' Ga.out.1 If.out Ig.out)).mono ?_
      rintro e wd ⟨rfl, hn⟩
      have HFd : Hid (New w wd) := Lib.hid (HN0.out.trans (HFc.out.trans hn))
      clear hn
      go_wp2
      go_ret
      exact ⟨rfl, HFd.out⟩
    · have ht : z = 1 ∨ z = -1 := by omega
      have z1 : -1 ≤ z := by omega
      have z2 : z ≤ 1 := by omega
      have HT := Lib.hid ht
      have HZZ := Lib.hid hz
      clear ht hz h3
      go_wp2_with fail
      refine (atG _ z la 4 81 _ (New.ts HF.out TA.out) Ga.out (by omega) (by omega) HT.out).mono ?_
      rintro e wa ⟨p, rfl, hz, y1, y2, hn⟩
      have Zp : Hid (p = val z la) := hz
      have Bp1 : -81 ≤ p := by omega
      have Bp2 : p ≤ 81 := by omega
      have HMp := Lib.hid hn
      clear hz y1 y2 hn
      have HFa : Hid (New w4 wa) := Lib.hid (HF.out.trans HMp.out)
      go_wp2_with fail
      refine (atG _ z lb 4 81 _ (New.ts HFa.out TB.out) Gb.out (by omega) (by omega) HT.out).mono ?_
      rintro e wb ⟨q, rfl, hz, y1, y2, hn⟩
      have Zq : Hid (q = val z lb) := hz
      have Bq1 : -81 ≤ q := by omega
      have Bq2 : q ≤ 81 := by omega
      have HMq := Lib.hid hn
      clear hz y1 y2 hn
      have HFb : Hid (New w4 wb) := Lib.hid (HFa.out.trans HMq.out)
      go_wp2_with fail
      refine (timesG _ _ _ _ 4 4 81 81 _ (New.ts HFb.out TA.out) (New.ts HFb.out TB.out) Ga.out Gb.out (by omega) (by omega) (by omega) (by omega)).mono ?_
      rintro e wc ⟨lm, vm, hi, hg, rfl, ht, hn⟩
      have Im := Lib.hid hi
      have Gm : Hid (G 8 6561 lm) := Lib.hid hg
      have Tm := Lib.hid ht
      have HFc : Hid (New w4 wc) := Lib.hid (HFb.out.trans hn)
      clear hi hg ht hn
      go_wp2_with fail
      refine (atG _ z lm 8 6561 _ Tm.out Gm.out (by omega) (by omega) HT.out).mono ?_
      rintro e wd ⟨r, rfl, hz, y1, y2, hn⟩
      have Zr : Hid (r = val z lm) := hz
      have Br1 : -6561 ≤ r := by omega
      have Br2 : r ≤ 6561 := by omega
      have HMr := Lib.hid hn
      clear hz y1 y2 hn
      have HFd : Hid (New w4 wd) := Lib.hid (HFc.out.trans HMr.out)
      go_wp2_with fail
      refine (plusG _ _ _ _ 4 81 81 _ (New.ts HFd.out TA.out) (New.ts HFd.out TB.out) Ga.out Gb.out (by omega) (by omega) (by omega)).mono ?_
      rintro e we ⟨ln, vn, hi, hg, rfl, ht, hn⟩
      have In := Lib.hid hi
      have Gn : Hid (G 4 162 ln) := Lib.hid hg
      have Tn := Lib.hid ht
      have HFe : Hid (New w4 we) := Lib.hid (HFd.out.trans hn)
      clear hi hg ht hn
      go_wp2_with fail
      refine (atG _ z ln 4 162 _ Tn.out Gn.out (by omega) (by omega) HT.out).mono ?_
      rintro e wf ⟨s, rfl, hz, y1, y2, hn⟩
      have Zs : Hid (s = val z ln) := hz
      have Bs1 : -162 ≤ s := by omega
      have Bs2 : s ≤ 162 := by omega
      have HMs := Lib.hid hn
      clear hz y1 y2 hn
      have HFf : Hid (New w4 wf) := Lib.hid (HFe.out.trans HMs.out)
      have HR : Hid (r = p * q) := Lib.hid (by rw [Zr.out, Zp.out, Zq.out]; exact Pl.value_mul' Im.out _ (fun x y => vf_mul x y))
      have HS : Hid (s = p + q) := Lib.hid (by rw [Zs.out, Zp.out, Zq.out]; exact Pl.value_add' In.out _)
      have hw : wrap64 (p * q) = r := by rw [← HR.out]; exact IntWalk.wrap64_in _ (by omega)
      have hs : (s != p + q) = false := by rw [HS.out]; simp
      go_wp2
      go_roundw
      case rel => exact ⟨z + 2, rfl, by have := HT.out; omega, HFf⟩
      case measure => show (4 - (z + 2)).toNat < (4 - z).toNat; omega
end Go.Proofs.YtjgmlicmjpgfcaaDoor
