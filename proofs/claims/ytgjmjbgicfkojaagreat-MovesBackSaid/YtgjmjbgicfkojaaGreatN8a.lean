/- Walks: need; what Do defers. -/
import Derived.Defers
import Derived.Recover
import Derived.Test.YtgjmjbgicfkojaaGreatN4
import Derived.Test.YtgjmjbgicfkojaaGreatW17
import Derived.Test.YtgjmjbgicfkojaaGreatW26
/- Walks: need; what Do defers. -/
namespace Go.Proofs.YtgjmjbgicfkojaaGreat
open Go.RowKit
theorem need_yes (e : Int) (w : World) : Calls Tryz.prog 46 #[.bool true, .int .i64 e] w (fun r w' => r = .returned (.tuple #[]) ∧ w' = w) := by
  go_enter Tryz.func46, Tryz.ntmps46
  go_wp2; go_end0
  exact ⟨rfl, rfl⟩
abbrev wrongP (e : Int) : List PanicEntry := [{ v := .iface 60 (.agg #[.int .i64 e]), recovered := false }]
theorem need_no (e : Int) (w : World) : Calls Tryz.prog 46 #[.bool false, .int .i64 e] w (fun r w' => r = .panicked (wrongP e) ∧ w' = w) := by
  go_enter Tryz.func46, Tryz.ntmps46
  go_wp2
  exact ⟨rfl, rfl, rfl⟩
set_option maxRecDepth 100000 in
set_option maxHeartbeats 1000000 in
theorem do1_idle (bo bq : Nat) (w : World) :
    CallsD Tryz.prog 19 #[.pointer (some ⟨bo, 0, none⟩), .pointer (some ⟨bq, 0, none⟩)] .returning w fun e u' w' => e = .returned (.tuple #[]) ∧ u' = .returning ∧ w' = w := by
  refine callsD_of_wpS Tryz.func19 rfl fun c₀ cs hu => ?_
  apply wpS_seq
  apply wpS_region
  simp [wpOpsS, go_sem, recoverD, hu, Tryz.ntmps19, Exit.thenS]
  refine wpS_of_wp ?_
  change Code.wp _ _ _ { tmps := #[.pointer (some ⟨bo, 0, none⟩), .pointer (some ⟨bq, 0, none⟩), Value.nilIface, undef, undef, Value.nilIface, undef, undef, undef, undef, undef, undef, undef, undef, undef, undef, undef, undef, undef], defers := [] } w
  go_wp2
  cases c₀
  simp_all [bodyPostS, results, Tryz.results19]
set_option maxRecDepth 100000 in
set_option maxHeartbeats 1000000 in
theorem do1_panic (bo bq t t' : Nat) (e e0 : Int) (x0 x1 : Value) (w : World) (hne : bo ≠ bq) (ho : w.heap[bo]? = some (.cells #[x0, x1] t (0, 0))) (hq : w.heap[bq]? = some (.cells #[.int .i64 e0] t' (0, 0))) :
    CallsD Tryz.prog 19 #[.pointer (some ⟨bo, 0, none⟩), .pointer (some ⟨bq, 0, none⟩)] (.panicking (wrongP e)) w fun r u' w' => r = .returned (.tuple #[]) ∧ u' = .panicking [{ v := .iface 60 (.agg #[.int .i64 e]), recovered := true }] ∧ Fr (fun k => k = bo ∨ k = bq) w w' ∧ w'.cell? ⟨bo, 0, none⟩ = some (.slice none 0 0) ∧ w'.cell? ⟨bo, 1, none⟩ = some (.int .i64 0) ∧ w'.cell? ⟨bq, 0, none⟩ = some (.int .i64 e) := by
  have hta : ∀ w : World, Sem.run Tryz.prog (Instr.typeAssert (.iface 60 (.agg #[.int .i64 e])) 20 60 true) w = .ok (.tuple #[.agg #[.int .i64 e], .bool true]) w := fun w => by kernel_rfl
  refine callsD_of_wpS Tryz.func19 rfl fun c₀ cs hu => ?_
  apply wpS_seq
  apply wpS_region
  simp [wpOpsS, go_sem, recoverD, hu, Tryz.ntmps19, Exit.thenS]
  refine wpS_of_wp ?_
  change Code.wp _ _ _ { tmps := #[.pointer (some ⟨bo, 0, none⟩), .pointer (some ⟨bq, 0, none⟩), .iface 60 (.agg #[.int .i64 e]), undef, undef, .iface 60 (.agg #[.int .i64 e]), undef, undef, undef, undef, undef, undef, undef, undef, undef, undef, undef, undef, undef], defers := [] } w
  go_wp2; have l0 : bo < w.heap.size := (Array.getElem?_eq_some_iff.1 ho).1; have lq : bq < w.heap.size := (Array.getElem?_eq_some_iff.1 hq).1; have HF0 := (Fr.refl (fun _ => False) w).alloc (.cells #[.int .i64 e] 60)
  have ho1 := HF0.blk ho fun x => x
  have hq1 := HF0.blk hq fun x => x
  have hn1 := heap_alloc_new w (.cells #[.int .i64 e] 60)
  obtain ⟨w1, HW1⟩ : ∃ w1, w.alloc (.cells #[.int .i64 e] 60) = w1 := ⟨_, rfl⟩
  rw [HW1] at ho1 hq1 hn1 HF0 ⊢
  obtain ⟨bn, HBN⟩ : ∃ bn, w.heap.size = bn := ⟨_, rfl⟩
  rw [HBN] at hn1 ⊢
  have n1 : ¬ bn = bo := by omega
  have n2 : ¬ bq = bo := fun h => hne h.symm
  have n3 : ¬ bn = bq := by omega
  have HN0 := Lib.hid HF0; clear HF0 HW1 HBN l0 lq ho hq; obtain ⟨m1, m2, m3, m4, m5, m6⟩ := res2 ho1
  have hS := fun Y Z => ((Fr.refl (fun k => k = bo) w1).setCell (a := ⟨bo, 0, none⟩) (.inl rfl) Y).setCell (a := ⟨bo, 1, none⟩) (.inl rfl) Z
  have hS1 := fun Y => ((Fr.refl (fun k => k = bo) w1).setCell (a := ⟨bo, 0, none⟩) (.inl rfl) Y)
  have d0 : w1.cell? ⟨bn, 0, none⟩ = some (.int .i64 e) := cell_of_row _ _ 0 _ 60 (0, 0) hn1
  have d1 : ∀ Y, (w1.setCell ⟨bo, 0, none⟩ Y).cell? ⟨bn, 0, none⟩ = some (.int .i64 e) := fun Y => (hS1 Y).cell d0 n1
  have d2 : ∀ Y Z, ((w1.setCell ⟨bo, 0, none⟩ Y).setCell ⟨bo, 1, none⟩ Z).cell? ⟨bn, 0, none⟩ = some (.int .i64 e) := fun Y Z => (hS Y Z).cell d0 n1
  have hq2 := fun Y Z => (hS Y Z).blk hq1 n2
  have e1 : ∀ Y Z, ((w1.setCell ⟨bo, 0, none⟩ Y).setCell ⟨bo, 1, none⟩ Z).cell? ⟨bq, 0, none⟩ = some (.int .i64 e0) := fun Y Z => cell_of_row _ _ 0 _ t' (0, 0) (hq2 Y Z)
  have e2 : ∀ Y Z, ((w1.setCell ⟨bo, 0, none⟩ Y).setCell ⟨bo, 1, none⟩ Z).frozen? ⟨bq, 0, none⟩ = false := fun Y Z => by simp [World.frozen?, hq2 Y Z]
  have e3 : ∀ Y Z U, (((w1.setCell ⟨bo, 0, none⟩ Y).setCell ⟨bo, 1, none⟩ Z).setCell ⟨bq, 0, none⟩ U).cell? ⟨bq, 0, none⟩ = some U := fun Y Z U => by
    have := hq2 Y Z
    simp [World.cell?, World.setCell, Array.getElem?_modify] at this ⊢
    simp [this]
  have HE3 := Lib.hid e3
  have HFF : Hid (∀ Y Z U, Fr (fun k => k = bo ∨ k = bq) w (((w1.setCell ⟨bo, 0, none⟩ Y).setCell ⟨bo, 1, none⟩ Z).setCell ⟨bq, 0, none⟩ U)) := Lib.hid fun Y Z U =>
    ((((HN0.out.mono fun _ h => h.elim).setCell (a := ⟨bo, 0, none⟩) (.inl (.inl rfl)) Y).setCell (a := ⟨bo, 1, none⟩) (.inl (.inl rfl)) Z).setCell (a := ⟨bq, 0, none⟩) (.inl (.inr rfl)) U)
  clear hS hS1 hq2 hq1 hn1 ho1 e3
  go_region
  have HP : Hid (Fr (fun k => k = bo ∨ k = bq) w (((w1.setCell ⟨bo, 0, none⟩ (.slice none 0 0)).setCell ⟨bo, 1, none⟩ (.int .i64 0)).setCell ⟨bq, 0, none⟩ (.int .i64 e)).drew ∧
      (((w1.setCell ⟨bo, 0, none⟩ (.slice none 0 0)).setCell ⟨bo, 1, none⟩ (.int .i64 0)).setCell ⟨bq, 0, none⟩ (.int .i64 e)).drew.cell? ⟨bo, 0, none⟩ = some (.slice none 0 0) ∧
      (((w1.setCell ⟨bo, 0, none⟩ (.slice none 0 0)).setCell ⟨bo, 1, none⟩ (.int .i64 0)).setCell ⟨bq, 0, none⟩ (.int .i64 e)).drew.cell? ⟨bo, 1, none⟩ = some (.int .i64 0) ∧
      (((w1.setCell ⟨bo, 0, none⟩ (.slice none 0 0)).setCell ⟨bo, 1, none⟩ (.int .i64 0)).setCell ⟨bq, 0, none⟩ (.int .i64 e)).drew.cell? ⟨bq, 0, none⟩ = some (.int .i64 e)) :=
    Lib.hid ⟨(HFF.out _ _ _).drew, ((Fr.refl (fun k => k = bq) _).setCell (a := ⟨bq, 0, none⟩) (.inl rfl) _).cell (m5 _ _) hne, ((Fr.refl (fun k => k = bq) _).setCell (a := ⟨bq, 0, none⟩) (.inl rfl) _).cell (m6 _ _) hne, HE3.out _ _ _⟩
  generalize (((w1.setCell ⟨bo, 0, none⟩ (.slice none 0 0)).setCell ⟨bo, 1, none⟩ (.int .i64 0)).setCell ⟨bq, 0, none⟩ (.int .i64 e)).drew = wz at HP ⊢; clear m1 m2 m3 m4 m5 m6 d0 d1 d2 e1 e2 HE3 HFF; go_wp2
  cases c₀
  simp [bodyPostS, results, Tryz.results19]
  exact HP.out
end Go.Proofs.YtgjmjbgicfkojaaGreat

/- Walks: open. -/
namespace Go.Proofs.YtgjmjbgicfkojaaGreat
open Go.RowKit

def GaveBe (ok : Bool) (X : List Kn.Cr) (L : Int) (w : World) (e : Ending) (w' : World) : Prop :=
  New w w' ∧ ((ok = true ∧ ∃ b s fv, e = .returned (.tuple #[.pointer (some ⟨b, 0, none⟩), .bool true]) ∧ BeAt w' b s fv X L ∧ Rows OwnD 0 71 w' fv (Kn.facesL X) ∧ w.heap.size ≤ b ∧ w.heap.size ≤ s) ∨ (ok = false ∧ e = .returned (.tuple #[.pointer none, .bool false])))
set_option maxRecDepth 100000 in
set_option maxHeartbeats 2000000 in
theorem open_any (a : Option Addr) (n c : Nat) (X : List Kn.Cr) (L : Int) (w : World) (hx : CrsAt w a X) (hn : n = X.length) (lx : n ≤ 9223372036854775807) (l1 : -9223372036854775808 ≤ L) (l2 : L ≤ 9223372036854775807) :
    Calls Tryz.prog 17 #[.agg #[.slice a n c, .int .i64 L]] w (GaveBe (Kn.mayB X L && Kn.planarB X) X L w) := by
  have HN := Lib.hid hn; have HX := Lib.hid hx; clear hx hn
  go_enter Tryz.func17, Tryz.ntmps17
  go_wp2_with fail; refine (new_any a n c X L _ (New.crs ((Fr.refl _ _).alloc _) HX.out) HN.out lx l1 l2).mono ?_; rintro e w4 ⟨hF, h5⟩
  rcases h5 with ⟨ho, s, rfl, hs, hlb, _⟩ | ⟨ho, rfl⟩
  · have HF : Hid (New w w4) := Lib.hid (((Fr.refl _ _).alloc _).trans hF)
    have HO := Lib.hid ho; have HS := Lib.hid hs; have HLB := Lib.hid hlb; have HOK := Lib.hid (mayB_ok ho); clear hF ho hs hlb
    obtain ⟨p, HP⟩ : ∃ p, Hid (Kn.planarB X = p) := ⟨_, Lib.hid rfl⟩
    go_wp2_with fail; refine (planar_any s X L _ HS.out HOK.out.1 HOK.out.2).mono ?_; rintro e w5 ⟨rfl, hE⟩; rw [HP.out]; have HE := Lib.hid (HF.out.trans hE); have HS5 := Lib.hid (New.shAt hE HS.out); clear hE
    cases p
    · go_wp2
      go_ret2
      exact ⟨HE.out, .inr ⟨by rw [HO.out, HP.out]; rfl, rfl⟩⟩
    · go_wp2_with fail
      refine (faces_any s X L _ HS5.out HOK.out.1 HOK.out.2).mono ?_; rintro e w6 ⟨v, rfl, hr, hE⟩; obtain ⟨fa, fc, rfl⟩ := hr.sl
      obtain ⟨m, hm⟩ : ∃ m, (Kn.facesL X).length = m := ⟨_, rfl⟩
      rw [hm] at hr ⊢; clear hm; have HS6 := Lib.hid (New.shAt hE HS5.out); have HR6 : Hid (Rows OwnD 0 71 w6 (.slice fa m fc) (Kn.facesL X)) := Lib.hid (Rows.base0 hr); have HE6 := Lib.hid (HE.out.trans hE); clear hE hr; go_wp2; go_ret2; have hN : New w6 (w6.alloc (.cells #[.pointer (some ⟨s, 0, none⟩), (Value.slice fa m fc)] 64)) := (Fr.refl _ _).alloc _
      refine ⟨HE6.out.trans hN, .inl ⟨by rw [HO.out, HP.out]; rfl, _, s, _, rfl, ⟨heap_alloc_new _ _, New.shAt hN HS6.out⟩, RowsD.new HR6.out hN, HE6.out.size, ?_⟩⟩
      have := HLB.out
      simp at this
      omega
  · have HF : Hid (New w w4) := Lib.hid (((Fr.refl _ _).alloc _).trans hF)
    have HO := Lib.hid ho; clear hF ho; go_wp2; go_ret2
    exact ⟨HF.out, .inr ⟨by rw [HO.out]; rfl, rfl⟩⟩
end Go.Proofs.YtgjmjbgicfkojaaGreat

/- Walks: Without's inner function. -/
namespace Go.Proofs.YtgjmjbgicfkojaaGreat
open Go.RowKit

set_option maxRecDepth 100000 in
set_option maxHeartbeats 1000000 in
theorem with1_any (Bn Bc rn rc m a u v : Nat) (w : World) (hn : w.cell? ⟨Bn, 0, none⟩ = some (.slice (some ⟨rn, 0, none⟩) m m)) (hc : w.cell? ⟨Bc, 0, none⟩ = some (.slice (some ⟨rc, 0, none⟩) m m))
    (hu : w.cell? ⟨rc, a, none⟩ = some (.int .i64 u)) (hv : w.cell? ⟨rn, u, none⟩ = some (.int .i64 v)) (ha : a < m) (hum : u < m) :
    Calls Tryz.prog 87 #[.int .i64 a, .pointer (some ⟨Bn, 0, none⟩), .pointer (some ⟨Bc, 0, none⟩)] w (fun e w' => e = .returned (.int .i64 v) ∧ New w w') := by
  have i1 : (0 : Int) ≤ (a : Int) := by omega
  have i2 : (a : Int) < (m : Int) := by omega
  have i3 : (0 : Int) ≤ (u : Int) := by omega
  have i4 : (u : Int) < (m : Int) := by omega
  go_enter Tryz.func87, Tryz.ntmps87
  go_wp2_with fail
  go_quiet (fail)
  go_wp2; go_ret
  exact ⟨rfl, (Fr.refl _ _).drewN _⟩
end Go.Proofs.YtgjmjbgicfkojaaGreat

/- Words for rows of crossings that are written in place. -/
namespace Go.Proofs.YtgjmjbgicfkojaaGreat
open Go.RowKit

theorem own_set {w : World} {base e sz g c n : Nat} {xs : List Value} (h : w.ownsRow base e sz (.slice (some ⟨g, 0, none⟩) n c) n xs) (j : Nat) (v : Value) :
    (w.setCell ⟨g, j, none⟩ v).ownsRow base e sz (.slice (some ⟨g, 0, none⟩) n c) n (xs.set j v) := by
  rcases h.2 with ⟨he, hn⟩ | ⟨g', cap, cur, he, hb, hg, h1, h2, h3, h4⟩
  · cases he
  · injection he with e1 e2 e3
    injection e1 with e1
    injection e1 with e1 _ _
    subst e1; subst e3
    refine ⟨by rw [List.length_set]; exact h.1, .inr ⟨g, c, cur.setIfInBounds j v, rfl, hb, ?_, h1, h2, by simpa using h3, ?_⟩⟩
    · simp [World.setCell, Array.getElem?_modify, hg]
    · rw [Array.toList_setIfInBounds, ← h4, List.take_set]
theorem own_free {w : World} {base e sz g c n : Nat} {xs : List Value} (h : w.ownsRow base e sz (.slice (some ⟨g, 0, none⟩) n c) n xs) (j : Nat) : w.frozen? ⟨g, j, none⟩ = false := by
  rcases h.2 with ⟨he, hn⟩ | ⟨g', cap, cur, he, hb, hg, _⟩
  · cases he
  · injection he with e1 e2 e3
    injection e1 with e1
    injection e1 with e1 _ _
    subst e1
    simp [World.frozen?, hg]
theorem crCells_set {Y : List Kn.Cr} {k : Nat} (hk : k < Y.length) (x : Kn.Cr) :
    (((((crCells Y).set (k * 5) (.int .i64 x.a)).set (k * 5 + 1) (.int .i64 x.b)).set (k * 5 + 2) (.int .i64 x.c)).set (k * 5 + 3) (.int .i64 x.d)).set (k * 5 + 4) (.bool x.p) = crCells (Y.set k x) := by
  apply List.ext_getElem?
  intro j
  by_cases c : j < Y.length * 5
  · rw [crCells_at (X := Y.set k x) (by rw [List.length_set]; exact c)]
    have hcr : ∀ i, Kn.cr (Y.set k x) i = if i = k then x else Kn.cr Y i := fun i => by
      unfold Kn.cr
      rw [List.getD_eq_getElem?_getD, List.getD_eq_getElem?_getD, List.getElem?_set]
      by_cases e : k = i
      · subst e; simp [hk]
      · rw [if_neg e, if_neg (fun h => e h.symm)]
    have hcells := crCells_at c
    unfold crFn
    rw [hcr]; simp only [List.getElem?_set, List.length_set, crCells_length]
    by_cases e : j / 5 = k
    · rw [if_pos e]
      obtain ⟨s, hs, rfl⟩ : ∃ s, s < 5 ∧ j = k * 5 + s := ⟨j - k * 5, by omega, by omega⟩
      rw [show (k * 5 + s) % 5 = s by omega]
      match s, hs with
      | 0, _ => simp; omega
      | 1, _ => simp; omega
      | 2, _ => simp; omega
      | 3, _ => simp; omega
      | 4, _ => simp; omega
    · rw [if_neg e, if_neg (by omega), if_neg (by omega), if_neg (by omega), if_neg (by omega), if_neg (by omega), hcells]
      rfl
  · rw [List.getElem?_eq_none (by simp [crCells_length]; omega), List.getElem?_eq_none (by simp [crCells_length]; omega)]
theorem Kn.cr_parts' (X : List Kn.Cr) (k : Nat) : ∃ a b c d p, Hid (Kn.cr X k = ⟨a, b, c, d, p⟩) := ⟨_, _, _, _, _, Lib.hid rfl⟩
abbrev set5 (w : World) (g j : Nat) (a b c d : Int) (p : Bool) : World := ((((w.setCell ⟨g, j * 5, none⟩ (.int .i64 a)).setCell ⟨g, j * 5 + 1, none⟩ (.int .i64 b)).setCell ⟨g, j * 5 + 2, none⟩ (.int .i64 c)).setCell ⟨g, j * 5 + 3, none⟩ (.int .i64 d)).setCell ⟨g, j * 5 + 4, none⟩ (.bool p)
theorem own_set5 {w : World} {base g c n j : Nat} {Y : List Kn.Cr} (h : w.ownsRow base 75 5 (.slice (some ⟨g, 0, none⟩) n c) n (crCells Y)) (hj : j < Y.length) (x : Kn.Cr) :
    (set5 w g j x.a x.b x.c x.d x.p).ownsRow base 75 5 (.slice (some ⟨g, 0, none⟩) n c) n (crCells (Y.set j x)) := by
  rw [← crCells_set hj x]
  exact own_set (own_set (own_set (own_set (own_set h _ _) _ _) _ _) _ _) _ _
theorem fr_set5 (w : World) (g j : Nat) (a b c d : Int) (p : Bool) : Fr (fun k => k = g) w (set5 w g j a b c d p) :=
  (((((Fr.refl (fun k => k = g) w).setCell (a := ⟨g, j * 5, none⟩) (.inl rfl) _).setCell (a := ⟨g, j * 5 + 1, none⟩) (.inl rfl) _).setCell (a := ⟨g, j * 5 + 2, none⟩) (.inl rfl) _).setCell (a := ⟨g, j * 5 + 3, none⟩) (.inl rfl) _).setCell (a := ⟨g, j * 5 + 4, none⟩) (.inl rfl) _
theorem own_five {w : World} {base g c n : Nat} {Y : List Kn.Cr} (h : w.ownsRow base 75 5 (.slice (some ⟨g, 0, none⟩) n c) n (crCells Y)) (hn : n = Y.length) {j : Nat} (hj : j < Y.length) : CrAt w g (j * 5) (Kn.cr Y j) := by
  subst hn; obtain ⟨a, c', e, hc⟩ := CrsAt.of_owns h
  cases e
  obtain ⟨b, o, e, hx⟩ := hc.at hj
  cases e
  rwa [Nat.zero_add] at hx
end Go.Proofs.YtgjmjbgicfkojaaGreat
