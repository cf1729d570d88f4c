/- Walks: Canon, at a diagram that may be and is not empty. -/
import Derived.Test.YtgjmjbgicfkojaaGreatW25
import Derived.Test.YtgjmjbgicfkojaaGreatW17
import Derived.ProofKit
import Derived.OpenShut
import Derived.ChangeOld
import Derived.Below
import Derived.Deep.Slices
import Derived.Test.YtgjmjbgicfkojaaGreatTK
import Derived.Test.YtgjmjbgicfkojaaGreatW12
import Derived.Test.YtgjmjbgicfkojaaGreatMAll
/- Walks: Canon, at a diagram that may be and is not empty. -/
namespace Go.Proofs.YtgjmjbgicfkojaaGreat
open Go.RowKit

set_option maxHeartbeats 2000000 in
theorem canon_any (a : Option Addr) (n c : Nat) (X : List Kn.Cr) (L : Int) (w : World) (hx : CrsAt w a X) (hn : n = X.length) (lx : n ≤ 9223372036854775807) (l1 : -9223372036854775808 ≤ L) (l2 : L ≤ 9223372036854775807) (hok : Kn.mayB X L = true) (hne : X ≠ []) :
    Calls Tryz.prog 15 #[.agg #[.slice a n c, .int .i64 L]] w (fun e w' => ∃ sc, e = .returned (.tuple #[.agg #[sc, .int .i64 L], .int .i64 0]) ∧ w'.ownsRow w.heap.size 75 5 sc (Kn.formL X).length (crCells (Kn.formL X)) ∧ New w w') := by
  have HN := Lib.hid hn; have HX := Lib.hid hx; have HOK := Lib.hid (mayB_ok hok); have HO := Lib.hid hok; clear hx hn
  go_enter Tryz.func15, Tryz.ntmps15
  go_wp2_with (first
    | (go_at_call 20; refine (new_any a n c X L _ (New.crs (((Fr.refl _ _).alloc _).alloc _) HX.out) HN.out lx l1 l2).mono ?_; rintro e w4 ⟨hF, h5⟩; obtain ⟨_, b, rfl, hs, _⟩ := h5.resolve_right (fun h => by have h1 := h.1; rw [HO.out] at h1; cases h1); have HF := Lib.hid hF; have HS := Lib.hid hs; clear hF hs h5)
    | (go_at_call 26; refine (form_any b X L _ HS.out HOK.out.1 HOK.out.2 hne).mono ?_; rintro e w5 ⟨sc, rfl, hr, hE⟩; obtain ⟨a1, c1, rfl, _⟩ := own_shape2 hr; have HR := Lib.hid hr; have HE := Lib.hid hE; have hb0 := (HF.out.trans hE).blk (show ((w.alloc (.cells #[.slice a n c, .int .i64 L] 24)).alloc (.cells #[.slice none 0 0, .int .i64 0] 24)).heap[w.heap.size + 1]? = some (.cells #[.slice none 0 0, .int .i64 0] 24 (0, 0)) by have := heap_alloc_new (w.alloc (.cells #[.slice a n c, .int .i64 L] 24)) (.cells #[.slice none 0 0, .int .i64 0] 24); rwa [World.size_alloc] at this) fun x => x; have HB := Lib.hid hb0; obtain ⟨e0, _, z0, _⟩ := box2_c hb0; have hb1 := (box2_set hb0 (.slice a1 (Kn.formL X).length c1)).1; obtain ⟨_, e1, _, z1⟩ := box2_c hb1; obtain ⟨m5, m6, _, _⟩ := box2_c (box2_set hb1 (.int .i64 L)).2; clear hr hE hb0 hb1))
  refine bodyPost_ret (v := .tuple #[.agg #[.slice a1 (Kn.formL X).length c1, .int .i64 L], .int .i64 0]) (by simp [results, Tryz.results15, go_sem, m5, m6]) rfl ⟨_, rfl, ?_, ?_⟩
  all_goals
    have hS : Fr (fun k => k = w.heap.size + 1) w5 ((w5.setCell ⟨w.heap.size + 1, 0, none⟩ (.slice a1 (Kn.formL X).length c1)).setCell ⟨w.heap.size + 1, 1, none⟩ (.int .i64 L)) := by refine Fr.setCell (Fr.setCell (Fr.refl _ w5) ?_ _) ?_ _ <;> exact .inl rfl
    have hN : New w w4 := (((Fr.refl _ w).alloc _).alloc _).trans HF.out
  · exact own_base (hS.owns HR.out fun k hk e => blk_not_own HB.out HR.out (by decide) (e ▸ hk)) hN.size
  · exact (hN.trans HE.out).next hS fun i hi => .inr (by rw [hi]; exact Nat.le_succ _)
end Go.Proofs.YtgjmjbgicfkojaaGreat

/- Walks: the trefoil. -/
namespace Go.Proofs.YtgjmjbgicfkojaaGreat
open Go.RowKit

set_option maxRecDepth 20000 in
theorem trefoil_any (w : World) :
    Calls Tryz.prog 12 #[] w (fun e w' => ∃ a c, e = .returned (.agg #[.slice a 3 c, .int .i64 0]) ∧ CrsAt w' a Kn.trefoil ∧ New w w') := by
  go_enter Tryz.func12, Tryz.ntmps12
  go_wp2; have hN := ((Fr.refl (fun _ => False) w).alloc (.cells #[.slice (some ⟨w.heap.size + 1, 0, none⟩) 3 3, .int .i64 0] 24)).alloc (.cells #[.int .i64 1, .int .i64 4, .int .i64 2, .int .i64 5, .bool false, .int .i64 3, .int .i64 6, .int .i64 4, .int .i64 1, .bool false, .int .i64 5, .int .i64 2, .int .i64 6, .int .i64 3, .bool false] 75)
  have hb := heap_alloc_new (w.alloc (.cells #[.slice (some ⟨w.heap.size + 1, 0, none⟩) 3 3, .int .i64 0] 24)) (.cells #[.int .i64 1, .int .i64 4, .int .i64 2, .int .i64 5, .bool false, .int .i64 3, .int .i64 6, .int .i64 4, .int .i64 1, .bool false, .int .i64 5, .int .i64 2, .int .i64 6, .int .i64 3, .bool false] 75)
  have hr := ((Fr.refl (fun _ => False) (w.alloc (.cells #[.slice (some ⟨w.heap.size + 1, 0, none⟩) 3 3, .int .i64 0] 24))).alloc (.cells #[.int .i64 1, .int .i64 4, .int .i64 2, .int .i64 5, .bool false, .int .i64 3, .int .i64 6, .int .i64 4, .int .i64 1, .bool false, .int .i64 5, .int .i64 2, .int .i64 6, .int .i64 3, .bool false] 75)).blk (heap_alloc_new _ _) fun x => x
  obtain ⟨m5, m6, _, _⟩ := box2_c hr; rw [World.size_alloc] at hb
  refine bodyPost_ret (v := .agg #[.slice (some ⟨w.heap.size + 1, 0, none⟩) 3 3, .int .i64 0]) (by simp [results, Tryz.results12, go_sem, m5, m6]) rfl ⟨_, _, rfl, ?_, hN⟩
  refine .inr ⟨_, _, rfl, fun i hi => ?_⟩
  match i, hi with
  | 0, _ => exact ⟨cell_of_row _ _ 0 _ 75 (0, 0) hb, cell_of_row _ _ 1 _ 75 (0, 0) hb, cell_of_row _ _ 2 _ 75 (0, 0) hb, cell_of_row _ _ 3 _ 75 (0, 0) hb, cell_of_row _ _ 4 _ 75 (0, 0) hb⟩
  | 1, _ => exact ⟨cell_of_row _ _ 5 _ 75 (0, 0) hb, cell_of_row _ _ 6 _ 75 (0, 0) hb, cell_of_row _ _ 7 _ 75 (0, 0) hb, cell_of_row _ _ 8 _ 75 (0, 0) hb, cell_of_row _ _ 9 _ 75 (0, 0) hb⟩
  | 2, _ => exact ⟨cell_of_row _ _ 10 _ 75 (0, 0) hb, cell_of_row _ _ 11 _ 75 (0, 0) hb, cell_of_row _ _ 12 _ 75 (0, 0) hb, cell_of_row _ _ 13 _ 75 (0, 0) hb, cell_of_row _ _ 14 _ 75 (0, 0) hb⟩
end Go.Proofs.YtgjmjbgicfkojaaGreat

/- Walks: awake. -/
namespace Go.Proofs.YtgjmjbgicfkojaaGreat
open Go.RowKit

set_option maxRecDepth 20000 in
set_option maxHeartbeats 4000000 in
theorem awake_any (w : World) : Calls Tryz.prog 5 #[] w (fun e w' => e = .returned (.bool true) ∧ New w w') := by
  have hm : Kn.mayB Kn.trefoil 0 = true := by unfold Kn.mayB; rw [Kn.trefoil_ok]; decide
  have HM := Lib.hid hm; clear hm
  go_enter Tryz.func5, Tryz.ntmps5
  go_wp2_with (first
    | (go_at_call 12; refine (trefoil_any _).mono ?_; rintro e w1 ⟨a, c, rfl, hx, hN⟩; have HX := Lib.hid hx; have HN := Lib.hid hN; have HX1 : Hid (CrsAt (w1.alloc (.cells #[.slice a 3 c, .int .i64 0] 24)) a Kn.trefoil) := Lib.hid (New.crs ((Fr.refl _ w1).alloc _) hx); have hb := heap_alloc_new w1 (.cells #[.slice a 3 c, .int .i64 0] 24); have HB := Lib.hid hb; clear hx hN hb)
    | (go_at_call 13; refine (cfaces_any a 3 c Kn.trefoil 0 _ HX1.out rfl (by omega) (by omega) (by omega)).mono ?_; rintro e w2 ⟨hN, h5⟩; obtain ⟨_, v2, rfl, hr⟩ := h5.resolve_right (fun h => by have h1 := h.1; rw [HM.out] at h1; cases h1); obtain ⟨a2, c2, rfl⟩ := hr.sl; rw [Kn.trefoil_faces]; have HN2 := Lib.hid hN; obtain ⟨p1, p2, _, _⟩ := box2_c (hN.blk HB.out fun x => x); clear hN hr h5)
    | (go_at_call 7; refine (cplanar_any a 3 c Kn.trefoil 0 _ (New.crs HN2.out HX1.out) rfl (by omega) (by omega) (by omega)).mono ?_; rintro e w3 ⟨hN, h5⟩; obtain ⟨_, rfl⟩ := h5.resolve_right (fun h => by have h1 := h.1; rw [HM.out] at h1; cases h1); rw [Kn.trefoil_planar]; have HN3 := Lib.hid (HN2.out.trans hN); obtain ⟨p3, p4, _, _⟩ := box2_c (HN3.out.blk HB.out fun x => x); clear hN h5)
    | (go_at_call 14; refine (gstrands_any a 3 c Kn.trefoil 0 _ (New.crs HN3.out HX1.out) rfl (by omega) (by omega) (by omega)).mono ?_; rintro e w4 ⟨hN, h5⟩; obtain ⟨_, v4, rfl, hr⟩ := h5.resolve_right (fun h => by have h1 := h.1; rw [HM.out] at h1; cases h1); rw [Kn.trefoil_strands] at hr; obtain ⟨g4, c4, u4, rfl, hc4, hu4⟩ := hr.at (i := 0) (by simp); obtain ⟨a5, c5, rfl⟩ := hu4.sl; have HC4 := Lib.hid hc4; have HN4 := Lib.hid (HN3.out.trans hN); obtain ⟨p5, p6, _, _⟩ := box2_c (HN4.out.blk HB.out fun x => x); clear hN h5 hr hu4 hc4)
    | (go_at_call 15; refine (canon_any a 3 c Kn.trefoil 0 _ (New.crs HN4.out HX1.out) rfl (by omega) (by omega) (by omega) HM.out (by simp [Kn.trefoil])).mono ?_; rintro e w5 ⟨s6, rfl, hr, hN⟩; rw [Kn.trefoil_form] at hr; obtain ⟨a6, c6, rfl, _⟩ := own_shape2 hr; have HC5 := Lib.hid (hN.cell HC4.out fun x => x); have HN5 := Lib.hid (HN4.out.trans hN); have hN6 : New (w1.alloc (.cells #[.slice a 3 c, .int .i64 0] 24)) (w5.alloc (.cells #[.slice a6 3 c6, .int .i64 0] 24)) := HN5.out.alloc _; have HN6 := Lib.hid hN6; obtain ⟨p7, p8, _, _⟩ := box2_c (hN6.blk HB.out fun x => x); obtain ⟨p9, p10, _, _⟩ := box2_c (heap_alloc_new w5 (.cells #[.slice a6 3 c6, .int .i64 0] 24)); have HP9 := Lib.hid p9; clear hr hN hN6)
    | (go_at_call 16; refine (may_any a 3 c Kn.trefoil 0 _ (New.crs HN6.out HX1.out) rfl (by omega) (by omega) (by omega)).mono ?_; rintro e w7 ⟨rfl, hN⟩; rw [HM.out]; have q1 := hN.cell HP9.out fun x => x; have q2 := hN.cell (cell_alloc HC5.out (.cells #[.slice a6 3 c6, .int .i64 0] 24)) fun x => x; have HN7 := Lib.hid (HN6.out.trans hN); clear hN))
  go_ret
  exact ⟨rfl, (HN.out.alloc _).trans HN7.out⟩
end Go.Proofs.YtgjmjbgicfkojaaGreat

/- What comes in: a diagram, as the walks want it. -/
namespace Go.Proofs.YtgjmjbgicfkojaaGreat
open Go.ChangeShapes Go.WideShapes Go.Deep Go.RowKit

theorem Tryz.cells24 : Tryz.prog.cellsOf 24 = 2 := by kernel_rfl
theorem Tryz.cells42 : Tryz.prog.cellsOf 75 = 5 := by kernel_rfl
theorem Tryz.cells22 : Tryz.prog.cellsOf 22 = 1 := by kernel_rfl
theorem Tryz.cells3 : Tryz.prog.cellsOf 3 = 1 := by kernel_rfl
theorem Tryz.cells4 : Tryz.prog.cellsOf 4 = 1 := by kernel_rfl
set_option maxRecDepth 100000 in
theorem cross_in {H : Type} {enc : TypeId × Value → H} {w : World} {sp : Nat → Bool} {n : Nat} {cs : List Value} {x : DataW H × List MemPlace} (h : DataW.trod enc Tryz.prog w 0 sp true n 75 cs = some x) :
    ∃ y : Kn.Cr, cs = [.int .i64 y.a, .int .i64 y.b, .int .i64 y.c, .int .i64 y.d, .bool y.p] := by
  obtain ⟨xs, k, _, _, hl, hxl, hf⟩ := DataW.trod_struct Tryz.underlying75 h; rw [Tryz.cells42] at hl
  match cs, hl, xs, hxl with
  | [c0, c1, c2, c3, c4], _, [y0, y1, y2, y3, y4], _ =>
    have g0 := hf 0 _ rfl; have g1 := hf 1 _ rfl; have g2 := hf 2 _ rfl; have g3 := hf 3 _ rfl; have g4 := hf 4 _ rfl
    simp [Tryz.cells3, Tryz.cells4] at g0 g1 g2 g3 g4
    obtain ⟨n0, e0, _, _⟩ := DataW.trod_int Tryz.underlying3 g0; obtain ⟨n1, e1, _, _⟩ := DataW.trod_int Tryz.underlying3 g1; obtain ⟨n2, e2, _, _⟩ := DataW.trod_int Tryz.underlying3 g2; obtain ⟨n3, e3, _, _⟩ := DataW.trod_int Tryz.underlying3 g3; obtain ⟨b4, e4, _⟩ := DataW.trod_bool Tryz.underlying4 g4; simp only [List.cons.injEq, and_true] at e0 e1 e2 e3 e4; subst e0 e1 e2 e3 e4
    exact ⟨⟨n0, n1, n2, n3, b4⟩, rfl⟩
set_option maxRecDepth 100000 in
theorem diag_in {H : Type} {enc : TypeId × Value → H} {w : World} {sp : Nat → Bool} {base : Nat} {v : Value} {d : DataW H} {p : List MemPlace} (hv : Value.okWide Tryz.prog w .any base 24 v) (h : DataW.Trod enc Tryz.prog w 0 sp true 24 v d p) :
    ∃ a c X L, v = .agg #[.slice a X.length c, .int .i64 L] ∧ CrsAt w a X ∧ X.length ≤ 9223372036854775807 ∧ -9223372036854775808 ≤ L ∧ L ≤ 9223372036854775807 := by
  obtain ⟨cs, rfl, hs⟩ := okWide_struct Tryz.underlying24 hv; obtain ⟨fuel, hf⟩ := h; have hcells : (Value.agg cs).cells.toList = cs.toList := rfl; rw [hcells] at hf; obtain ⟨y0, y1, n, _, hl, t0, t1⟩ := trod_struct2 Tryz.underlying24 hf; rw [Tryz.cells24] at hs
  obtain ⟨c0, c1, rfl⟩ : ∃ c0 c1, cs = #[c0, c1] := by
    match cs, hs with
    | ⟨[c0, c1]⟩, _ => exact ⟨c0, c1, rfl⟩
  simp [Tryz.cells22, Tryz.cells3] at t0 t1
  obtain ⟨L, e1, _, hw⟩ := DataW.trod_int Tryz.underlying3 t1; simp only [List.cons.injEq, and_true] at e1; subst e1; have hL := bounds_i64 hw
  rcases open_slice Tryz.underlying22 t0 with ⟨e0, _⟩ | ⟨a, len, cap, m, k, D, Pl, e0, _, hlc, hm, hmm, _, hx⟩
  · simp only [List.cons.injEq, and_true] at e0
    subst e0
    exact ⟨none, 0, [], L, rfl, .inl rfl, by simp, by omega, by omega⟩
  · simp only [List.cons.injEq, and_true] at e0
    subst e0
    have hml : len ≤ m := by rw [hmm]; split <;> omega
    have each : ∀ i, i < len → ∃ y : Kn.Cr, w.cell? (a.add (i * 5)) = some (.int .i64 y.a) ∧ w.cell? (a.add (i * 5 + 1)) = some (.int .i64 y.b) ∧ w.cell? (a.add (i * 5 + 2)) = some (.int .i64 y.c) ∧ w.cell? (a.add (i * 5 + 3)) = some (.int .i64 y.d) ∧ w.cell? (a.add (i * 5 + 4)) = some (.bool y.p) := fun i hi => by
      obtain ⟨cs', h1, h2⟩ := hx i (by omega); rw [Tryz.cells42] at h1; obtain ⟨_, _, hcell⟩ := World.cells?_some h1; obtain ⟨y, rfl⟩ := cross_in h2
      refine ⟨y, ?_, ?_, ?_, ?_, ?_⟩
      · have := hcell 0 (by omega); rw [add_add] at this; simpa using this
      · have := hcell 1 (by omega); rw [add_add] at this; simpa using this
      · have := hcell 2 (by omega); rw [add_add] at this; simpa using this
      · have := hcell 3 (by omega); rw [add_add] at this; simpa using this
      · have := hcell 4 (by omega); rw [add_add] at this; simpa using this
    obtain ⟨Y, hY⟩ := choose_lt each
    refine ⟨some a, cap, (List.range len).map Y, L, by simp, ?_, by simp; unfold maxLen at hm; omega, by omega, by omega⟩
    by_cases h0 : len = 0
    · left; subst h0; rfl
    · right
      obtain ⟨b, o, t⟩ := a
      have ht : t = none := by
        have := (hY 0 (by omega)).1
        simpa [Addr.add] using World.cell?_spot this
      subst ht
      refine ⟨b, o, rfl, fun i hi => ?_⟩
      have hi' : i < len := by simpa using hi
      have e : Kn.cr ((List.range len).map Y) i = Y i := by
        unfold Kn.cr
        rw [List.getD_eq_getElem?_getD, List.getElem?_map, List.getElem?_range hi']; rfl
      rw [e]; obtain ⟨h1, h2, h3, h4, h5⟩ := hY i hi'; rw [addr_add] at h1 h2 h3 h4 h5
      exact ⟨h1, h2, h3, h4, h5⟩
end Go.Proofs.YtgjmjbgicfkojaaGreat

/- Walks: Below, Above, Through. -/
namespace Go.Proofs.YtgjmjbgicfkojaaGreat
open Go.RowKit

abbrev twoV (a b : Int) : Value := .agg #[.int .i64 a, .int .i64 b]
theorem two_c {W : World} {B t : Nat} {a b : Value} (h : W.heap[B]? = some (.cells #[a, b] t (0, 0))) : W.cell? ⟨B, 0, none⟩ = some a ∧ W.cell? ⟨B, 1, none⟩ = some b ∧ W.frozen? ⟨B, 0, none⟩ = false ∧ W.frozen? ⟨B, 1, none⟩ = false := by
  refine ⟨cell_of_row _ _ 0 _ t (0, 0) h, cell_of_row _ _ 1 _ t (0, 0) h, ?_, ?_⟩ <;> simp [World.frozen?, h]
theorem four_c {W : World} {B t : Nat} {a b c d : Value} (h : W.heap[B]? = some (.cells #[a, b, c, d] t (0, 0))) :
    W.cell? ⟨B, 0, none⟩ = some a ∧ W.cell? ⟨B, 1, none⟩ = some b ∧ W.cell? ⟨B, 2, none⟩ = some c ∧ W.cell? ⟨B, 3, none⟩ = some d ∧
    W.frozen? ⟨B, 0, none⟩ = false ∧ W.frozen? ⟨B, 1, none⟩ = false ∧ W.frozen? ⟨B, 2, none⟩ = false ∧ W.frozen? ⟨B, 3, none⟩ = false := by
  refine ⟨cell_of_row _ _ 0 _ t (0, 0) h, cell_of_row _ _ 1 _ t (0, 0) h, cell_of_row _ _ 2 _ t (0, 0) h, cell_of_row _ _ 3 _ t (0, 0) h, ?_, ?_, ?_, ?_⟩ <;> simp [World.frozen?, h]
theorem five_c {W : World} {B t : Nat} {a b c d e : Value} (h : W.heap[B]? = some (.cells #[a, b, c, d, e] t (0, 0))) :
    W.cell? ⟨B, 0, none⟩ = some a ∧ W.cell? ⟨B, 1, none⟩ = some b ∧ W.cell? ⟨B, 2, none⟩ = some c ∧ W.cell? ⟨B, 3, none⟩ = some d ∧ W.cell? ⟨B, 4, none⟩ = some e := by
  refine ⟨cell_of_row _ _ 0 _ t (0, 0) h, cell_of_row _ _ 1 _ t (0, 0) h, cell_of_row _ _ 2 _ t (0, 0) h, cell_of_row _ _ 3 _ t (0, 0) h, cell_of_row _ _ 4 _ t (0, 0) h⟩
theorem four_set {W : World} {B t : Nat} {a b c d : Value} (h : W.heap[B]? = some (.cells #[a, b, c, d] t (0, 0))) (a' b' c' d' : Value) :
    ((((W.setCell ⟨B, 0, none⟩ a').setCell ⟨B, 1, none⟩ b').setCell ⟨B, 2, none⟩ c').setCell ⟨B, 3, none⟩ d').heap[B]? = some (.cells #[a', b', c', d'] t (0, 0)) := by
  unfold World.setCell; simp [Array.getElem?_modify, h]
theorem four_fr (W : World) (B : Nat) (a b c d : Value) : Fr (fun k => k = B) W ((((W.setCell ⟨B, 0, none⟩ a).setCell ⟨B, 1, none⟩ b).setCell ⟨B, 2, none⟩ c).setCell ⟨B, 3, none⟩ d) :=
  ((((Fr.refl (fun k => k = B) W).setCell (a := ⟨B, 0, none⟩) (.inl rfl) _).setCell (a := ⟨B, 1, none⟩) (.inl rfl) _).setCell (a := ⟨B, 2, none⟩) (.inl rfl) _).setCell (a := ⟨B, 3, none⟩) (.inl rfl) _
theorem below_any (x : Kn.Cr) (w : World) : Calls Tryz.prog 88 #[crV x] w (fun e w' => e = .returned (twoV x.a x.c) ∧ New w w') := by
  obtain ⟨a, b, c, d, p⟩ := x
  go_enter Tryz.func88, Tryz.ntmps88
  go_wp2; have HN := Lib.hid (((Fr.refl (fun _ => False) w).alloc (.cells #[.int .i64 a, .int .i64 b, .int .i64 c, .int .i64 d, .bool p] 75)).alloc (.cells #[.int .i64 a, .int .i64 c] 104)); have hz := heap_alloc_new (w.alloc (.cells #[.int .i64 a, .int .i64 b, .int .i64 c, .int .i64 d, .bool p] 75)) (.cells #[.int .i64 a, .int .i64 c] 104); rw [World.size_alloc] at hz; obtain ⟨c1, c2, _⟩ := two_c hz
  exact bodyPost_ret (v := twoV a c) (by simp [results, Tryz.results88, go_sem, c1, c2]) rfl ⟨rfl, HN.out⟩
def upA (x : Kn.Cr) : Int := if x.p then x.d else x.b
def upB (x : Kn.Cr) : Int := if x.p then x.b else x.d
theorem above_any (x : Kn.Cr) (w : World) : Calls Tryz.prog 89 #[crV x] w (fun e w' => e = .returned (twoV (upA x) (upB x)) ∧ New w w') := by
  obtain ⟨a, b, c, d, p⟩ := x
  go_enter Tryz.func89, Tryz.ntmps89
  cases p
  · go_wp2
    have HN := Lib.hid (((Fr.refl (fun _ => False) w).alloc (.cells #[.int .i64 a, .int .i64 b, .int .i64 c, .int .i64 d, .bool false] 75)).alloc (.cells #[.int .i64 b, .int .i64 d] 104)); have hz := heap_alloc_new (w.alloc (.cells #[.int .i64 a, .int .i64 b, .int .i64 c, .int .i64 d, .bool false] 75)) (.cells #[.int .i64 b, .int .i64 d] 104); rw [World.size_alloc] at hz; obtain ⟨c1, c2, _⟩ := two_c hz
    exact bodyPost_ret (v := twoV b d) (by simp [results, Tryz.results89, go_sem, c1, c2]) rfl ⟨rfl, HN.out⟩
  · go_wp2
    have HN := Lib.hid (((Fr.refl (fun _ => False) w).alloc (.cells #[.int .i64 a, .int .i64 b, .int .i64 c, .int .i64 d, .bool true] 75)).alloc (.cells #[.int .i64 d, .int .i64 b] 104)); have hz := heap_alloc_new (w.alloc (.cells #[.int .i64 a, .int .i64 b, .int .i64 c, .int .i64 d, .bool true] 75)) (.cells #[.int .i64 d, .int .i64 b] 104); rw [World.size_alloc] at hz; obtain ⟨c1, c2, _⟩ := two_c hz
    exact bodyPost_ret (v := twoV d b) (by simp [results, Tryz.results89, go_sem, c1, c2]) rfl ⟨rfl, HN.out⟩
abbrev tieV (x : Kn.Cr) : Value := .agg #[.int .i64 x.a, .int .i64 x.c, .int .i64 (upA x), .int .i64 (upB x)]
set_option maxRecDepth 100000 in
set_option maxHeartbeats 2000000 in
theorem through_any (x : Kn.Cr) (w : World) : Calls Tryz.prog 75 #[crV x] w (fun e w' => e = .returned (tieV x) ∧ New w w') := by
  obtain ⟨a, b, c, d, p⟩ := x
  obtain ⟨ua, HUA⟩ : ∃ ua, Hid (upA ⟨a, b, c, d, p⟩ = ua) := ⟨_, Lib.hid rfl⟩
  obtain ⟨ub, HUB⟩ : ∃ ub, Hid (upB ⟨a, b, c, d, p⟩ = ub) := ⟨_, Lib.hid rfl⟩
  go_enter Tryz.func75, Tryz.ntmps75
  go_wp2
  obtain ⟨w1, HW1⟩ : ∃ w1, Hid (w1 = (w.alloc (.cells #[.int .i64 a, .int .i64 b, .int .i64 c, .int .i64 d, .bool p] 75)).alloc (.cells #[.int .i64 0, .int .i64 0, .int .i64 0, .int .i64 0] 146)) := ⟨_, Lib.hid rfl⟩
  rw [← HW1.out]
  have hN1 : New w w1 := by rw [HW1.out]; exact ((Fr.refl _ w).alloc _).alloc _
  have hb1 : w1.heap[w.heap.size]? = some (.cells #[.int .i64 a, .int .i64 b, .int .i64 c, .int .i64 d, .bool p] 75 (0, 0)) := by
    rw [HW1.out]; exact ((Fr.refl (fun _ => False) _).alloc _).blk (heap_alloc_new w _) fun x => x
  have hb2 : w1.heap[w.heap.size + 1]? = some (.cells #[.int .i64 0, .int .i64 0, .int .i64 0, .int .i64 0] 146 (0, 0)) := by
    have h2 := heap_alloc_new (w.alloc (.cells #[.int .i64 a, .int .i64 b, .int .i64 c, .int .i64 d, .bool p] 75)) (.cells #[.int .i64 0, .int .i64 0, .int .i64 0, .int .i64 0] 146); rw [World.size_alloc] at h2
    rw [HW1.out]; exact h2
  have hS0 : (fun w' : World => w'.cell? ⟨w.heap.size, 0, none⟩ = some (.int .i64 a) ∧ w'.cell? ⟨w.heap.size, 1, none⟩ = some (.int .i64 b) ∧ w'.cell? ⟨w.heap.size, 2, none⟩ = some (.int .i64 c) ∧ w'.cell? ⟨w.heap.size, 3, none⟩ = some (.int .i64 d) ∧ w'.cell? ⟨w.heap.size, 4, none⟩ = some (.bool p)) w1.drew := five_c (W := w1.drew) hb1; have HR0 : Hid (w1.drew.heap[w.heap.size + 1]? = some (.cells #[.int .i64 0, .int .i64 0, .int .i64 0, .int .i64 0] 146 (0, 0))) := Lib.hid hb2; have HN0 : Hid (New w w1.drew) := Lib.hid hN1.drew
  have HB0 : Hid (w1.drew.heap[w.heap.size]? = some (.cells #[.int .i64 a, .int .i64 b, .int .i64 c, .int .i64 d, .bool p] 75 (0, 0))) := Lib.hid hb1; clear hb1 hb2 hN1
  refine wp_region_held_drew (S := fun w' => w'.cell? ⟨w.heap.size, 0, none⟩ = some (.int .i64 a) ∧ w'.cell? ⟨w.heap.size, 1, none⟩ = some (.int .i64 b) ∧ w'.cell? ⟨w.heap.size, 2, none⟩ = some (.int .i64 c) ∧ w'.cell? ⟨w.heap.size, 3, none⟩ = some (.int .i64 d) ∧ w'.cell? ⟨w.heap.size, 4, none⟩ = some (.bool p)) (by kernel_rfl) hS0 (fun hHeld => ?_)
  clear hS0; generalize w1.drew = r0 at hHeld HR0 HN0 HB0 ⊢; refine' tkO (i := 0) ?_; (try simp only [Act.put, lq1, lq2, lq4, lq5, lq6]); refine' tkO (i := 2) ?_; (try simp only [Act.put, lq1, lq2, lq3, lq4, lq5, lq6]); refine rdO (i := 1) (fun K hK => ?_); (try simp only [lq1, lq2, lq3]); go_simp; refine (below_any ⟨a, b, c, d, p⟩ _).mono ?_; rintro e r1 ⟨rfl, hF⟩; have HB1 := Lib.hid (hF.blk HB0.out fun x => x); have HR1 := Lib.hid (hF.blk HR0.out fun x => x); have HN1 := Lib.hid (HN0.out.trans hF); clear hF; go_wp2_with fail; refine hK.out _ _ (five_c HB1.out) (fun hHeld => ?_)
  clear hK K; (try simp only [Act.put, lq1, lq2, lq3, lq4, lq5, lq6]); refine rdO (i := 3) (fun K hK => ?_); (try simp only [lq1, lq2, lq3]); go_simp; refine (above_any ⟨a, b, c, d, p⟩ _).mono ?_; rintro e r2 ⟨rfl, hF⟩; rw [HUA.out, HUB.out]; have HB2 := Lib.hid (hF.blk HB1.out fun x => x); have HR2 := Lib.hid (hF.blk HR1.out fun x => x); have HN2 := Lib.hid (HN1.out.trans hF); clear hF; go_wp2_with fail; refine hK.out _ _ (five_c HB2.out) (fun hHeld => ?_); clear hK K; (try simp only [Act.put, lq1, lq2, lq3, lq4, lq5, lq6]); refine' tkO (i := 4) ?_
  (try simp only [Act.put, lq1, lq2, lq3, lq4, lq5, lq6]); refine rdO (i := 5) (fun K hK => ?_); (try simp only [lq1, lq2, lq3]); obtain ⟨q1, q2, q3, q4, q5, q6, q7, q8⟩ := four_c HR2.out; go_simp; have HE := Lib.hid (four_set HR2.out (.int .i64 a) (.int .i64 c) (.int .i64 ua) (.int .i64 ub)); have HF := Lib.hid (four_fr r2 (w.heap.size + 1) (.int .i64 a) (.int .i64 c) (.int .i64 ua) (.int .i64 ub)); clear q1 q2 q3 q4 q5 q6 q7 q8; refine hK.out _ _ (five_c (HF.out.blk HB2.out (by omega))) (fun hHeld => ?_); clear hK K; (try simp only [Act.put, lq1, lq2, lq3, lq4, lq5, lq6])
  refine wpAnyH_done (by kernel_rfl) ?_ _; obtain ⟨q1, q2, q3, q4, _⟩ := four_c HE.out; have HN5 : Hid (New w _) := Lib.hid (HN2.out.next HF.out fun i hi => .inr (by omega)); go_wp2
  exact bodyPost_ret (v := .agg #[.int .i64 a, .int .i64 c, .int .i64 ua, .int .i64 ub]) (by simp [results, Tryz.results75, go_sem, q1, q2, q3, q4]) rfl ⟨by rw [← HUA.out, ← HUB.out], HN5.out⟩
end Go.Proofs.YtgjmjbgicfkojaaGreat

/- Walks: Index, Contains of numbers. -/
namespace Go.Proofs.YtgjmjbgicfkojaaGreat
open Go.RowKit

def IntsAt (w : World) (g : Nat) (gs : List Int) : Prop := ∀ i, i < gs.length → w.cell? ⟨g, i, none⟩ = some (.int .i64 (gs.getD i 0))
theorem IntsAt.new {w w' : World} {g : Nat} {gs : List Int} (h : IntsAt w g gs) (k : New w w') : IntsAt w' g gs := fun i hi => k.cell (h i hi) fun x => x
set_option maxHeartbeats 1000000 in
theorem index_any (g n c : Nat) (gs : List Int) (v : Int) (w : World) (h : IntsAt w g gs) (hn : n = gs.length) (hl : n ≤ 16) :
    Calls Tryz.prog 102 #[.slice (some ⟨g, 0, none⟩) n c, .int .i64 v] w (fun e w' => (∃ r, e = .returned (.int .i64 r) ∧ (0 ≤ r ↔ v ∈ gs)) ∧ w' = w) := by
  have HN := Lib.hid hn; have H := Lib.hid h; clear hn h
  go_enter Tryz.func102, Tryz.ntmps102
  go_wp2
  go_loop [8] (fun i => ∃ k : Nat, k ≤ n ∧ i = .int .i64 k ∧ Hid (∀ j, j < k → gs.getD j 0 ≠ v)) (fun i => n - (intOf i).toNat)
  case atStart => exact ⟨0, by omega, rfl, Lib.hid fun j hj => by omega⟩
  case round =>
    obtain ⟨k, hk, rfl, HQ⟩ := hrel
    by_cases hkn : k < n
    · have hc := H.out k (by have := HN.out; omega)
      have i1 : (0 : Int) ≤ (k : Int) := by omega
      have i2 : (k : Int) < (n : Int) := by omega
      obtain ⟨u, HU⟩ : ∃ u, Hid (gs.getD k 0 = u) := ⟨_, Lib.hid rfl⟩
      rw [HU.out] at hc
      by_cases huv : v = u
      · have hb : (v == u) = true := by simpa using huv
        go_wp2; go_ret
        refine ⟨⟨_, rfl, ?_⟩, rfl⟩
        constructor
        · intro _
          first | rw [← HU.out] | rw [huv, ← HU.out]
          have hkg : k < gs.length := by have := HN.out; omega
          rw [List.getD_eq_getElem?_getD, List.getElem?_eq_getElem hkg]
          exact List.getElem_mem hkg
        · intro _; omega
      · have hb : (v == u) = false := by simpa using huv
        go_wp2
        go_round
        case rel =>
          refine ⟨k + 1, by omega, by go_num, Lib.hid fun j hj => ?_⟩
          by_cases e : j = k
          · rw [e, HU.out]; exact fun k => huv k.symm
          · exact HQ.out j (by omega)
        case measure => simp [intOf]; omega
    · obtain rfl : k = n := by omega
      go_wp2; go_ret
      refine ⟨⟨_, rfl, ?_⟩, rfl⟩
      constructor
      · intro h; omega
      · intro h
        obtain ⟨i, hi, e⟩ := List.mem_iff_getElem.1 h
        exact absurd (by rw [List.getD_eq_getElem?_getD, List.getElem?_eq_getElem hi]; exact e) (HQ.out i (by have := HN.out; omega))
set_option maxRecDepth 100000 in
set_option maxHeartbeats 1000000 in
theorem contains_any (g n c : Nat) (gs : List Int) (v : Int) (w : World) (h : IntsAt w g gs) (hn : n = gs.length) (hl : n ≤ 16) :
    Calls Tryz.prog 86 #[.slice (some ⟨g, 0, none⟩) n c, .int .i64 v] w (fun e w' => e = .returned (.bool (decide (v ∈ gs))) ∧ w' = w) := by
  have HN := Lib.hid hn; have H := Lib.hid h; clear hn h
  obtain ⟨r, HR⟩ : ∃ r, Hid (decide (v ∈ gs) = r) := ⟨_, Lib.hid rfl⟩
  rw [HR.out]
  go_enter Tryz.func86, Tryz.ntmps86
  go_wp2_with fail; refine (index_any g n c gs v _ H.out HN.out hl).mono ?_; rintro e w' ⟨⟨x, rfl, hx⟩, rfl⟩; have HX : Hid (decide (0 ≤ x) = r) := Lib.hid (by rw [← HR.out, Bool.eq_iff_iff, decide_eq_true_eq, decide_eq_true_eq]; exact hx); clear hx; go_wp2; go_ret
  exact ⟨ret_bool HX.out, rfl⟩
end Go.Proofs.YtgjmjbgicfkojaaGreat

/- Walks: words for a bench; isCross, over, Tail. -/
namespace Go.Proofs.YtgjmjbgicfkojaaGreat
open Go.RowKit

structure BeAt (w : World) (b s : Nat) (fv : Value) (X : List Kn.Cr) (L : Int) : Prop where
  blk : w.heap[b]? = some (.cells #[.pointer (some ⟨s, 0, none⟩), fv] 64 (0, 0))
  sh : ShAt w s X L
theorem BeAt.new {w w' : World} {b s : Nat} {fv : Value} {X : List Kn.Cr} {L : Int} (h : BeAt w b s fv X L) (k : New w w') : BeAt w' b s fv X L := ⟨k.blk h.blk fun x => x, k.shAt h.sh⟩
theorem BeAt.c {w : World} {b s : Nat} {fv : Value} {X : List Kn.Cr} {L : Int} (h : BeAt w b s fv X L) : w.cell? ⟨b, 0, none⟩ = some (.pointer (some ⟨s, 0, none⟩)) ∧ w.cell? ⟨b, 1, none⟩ = some fv :=
  ⟨cell_of_row _ _ 0 _ 64 (0, 0) h.blk, cell_of_row _ _ 1 _ 64 (0, 0) h.blk⟩
theorem ShAt.crs {w : World} {b : Nat} {X : List Kn.Cr} {L : Int} (h : ShAt w b X L) : ∃ a c, w.cell? ⟨b, 0, none⟩ = some (.slice a X.length c) ∧ w.cell? ⟨b, 1, none⟩ = some (.int .i64 L) ∧ CrsAt w a X := by
  obtain ⟨v, bi, bo, base, s⟩ := h; obtain ⟨a, c, rfl, hc⟩ := CrsAt.of_owns s.own
  exact ⟨a, c, s.c2.1, s.c2.2.1, hc⟩
def isCr (X : List Kn.Cr) (c : Int) : Bool := decide (0 ≤ c) && decide (c < X.length)
set_option maxRecDepth 100000 in
set_option maxHeartbeats 1000000 in
theorem isCross_any (b s : Nat) (fv : Value) (X : List Kn.Cr) (L : Int) (c : Int) (w : World) (h : BeAt w b s fv X L) (hl : X.length ≤ 16) :
    Calls Tryz.prog 51 #[.pointer (some ⟨b, 0, none⟩), .int .i64 c] w (fun e w' => e = .returned (.bool (isCr X c)) ∧ w' = w) := by
  obtain ⟨a, cc, h0, _, _⟩ := h.sh.crs; obtain ⟨c0, _⟩ := h.c
  obtain ⟨n, hn⟩ : ∃ n, n = X.length := ⟨_, rfl⟩
  unfold isCr
  rw [← hn] at h0 hl ⊢; clear h hn
  go_enter Tryz.func51, Tryz.ntmps51
  by_cases hc : 0 ≤ c
  · have hb : decide (0 ≤ c) = true := decide_eq_true hc
    go_wp2; go_ret
    exact ⟨ret_bool (by simp [hc]), rfl⟩
  · have hb : decide (0 ≤ c) = false := decide_eq_false hc
    go_wp2; go_ret
    exact ⟨ret_bool (by simp), rfl⟩
def ovA (X : List Kn.Cr) (a : Nat) : Bool := decide ((Kn.inP X a).2 % 2 = 1) && decide ((Kn.outP X a).2 % 2 = 1)
def ovB (X : List Kn.Cr) (a : Nat) : Bool := (!decide ((Kn.inP X a).2 % 2 = 1)) && !decide ((Kn.outP X a).2 % 2 = 1)
theorem emod2 (k : Nat) : ((k : Int) % 2 == 1) = decide (k % 2 = 1) := by
  rw [Bool.eq_iff_iff, beq_iff_eq, decide_eq_true_eq]; omega
set_option maxRecDepth 100000 in
set_option maxHeartbeats 2000000 in
theorem over_any (b s : Nat) (fv : Value) (X : List Kn.Cr) (L : Int) (a : Nat) (w : World) (h : BeAt w b s fv X L) (hl : X.length ≤ 16) (ha : Kn.isArc X a) :
    Calls Tryz.prog 63 #[.pointer (some ⟨b, 0, none⟩), .int .i64 a] w (fun e w' => e = .returned (.tuple #[.bool (ovA X a), .bool (ovB X a)]) ∧ New w w') := by
  have hn0 : 0 < X.length := by have := ha.1; have := ha.2; unfold Kn.nArcs at this; omega
  obtain ⟨n, bx, ox, cc, bi, bo, r⟩ := h.sh.read hn0
  have hal : a < 2 * n + 1 := by have := ha.2; unfold Kn.nArcs at this; have := r.len; omega
  have i1 : (0 : Int) ≤ (a : Int) := by omega
  have i2 : (a : Int) < 2 * (n : Int) + 1 := by omega
  obtain ⟨c0, _⟩ := h.c; obtain ⟨g1, g2⟩ := r.pi a hal; obtain ⟨k1, k2⟩ := r.po a hal; have g0 := r.c2; have k0 := r.c3
  obtain ⟨x, HX⟩ : ∃ x, Hid ((Kn.inP X a).2 = x) := ⟨_, Lib.hid rfl⟩
  obtain ⟨y, HY⟩ : ∃ y, Hid ((Kn.outP X a).2 = y) := ⟨_, Lib.hid rfl⟩
  rw [HX.out] at g2; rw [HY.out] at k2
  obtain ⟨p, HP⟩ : ∃ p, Hid (decide (x % 2 = 1) = p) := ⟨_, Lib.hid rfl⟩
  obtain ⟨q, HQ⟩ : ∃ q, Hid (decide (y % 2 = 1) = q) := ⟨_, Lib.hid rfl⟩
  have hp : ((x : Int) % 2 == 1) = p := (emod2 x).trans HP.out; have hq : ((y : Int) % 2 == 1) = q := (emod2 y).trans HQ.out
  have HR : Hid (ovA X a = (p && q) ∧ ovB X a = (!p && !q)) := Lib.hid (by
    unfold ovA ovB
    rw [HX.out, HY.out, HP.out, HQ.out]; exact ⟨rfl, rfl⟩)
  rw [HR.out.1, HR.out.2]; clear r h ha
  go_enter Tryz.func63, Tryz.ntmps63
  obtain ⟨r1, H1⟩ : ∃ r, Hid ((p && q) = r) := ⟨_, Lib.hid rfl⟩
  obtain ⟨r2, H2⟩ : ∃ r, Hid ((!p && !q) = r) := ⟨_, Lib.hid rfl⟩
  rw [H1.out, H2.out]
  cases p <;> cases q
  · go_wp2_with fail
    go_quiet (fail)
    go_wp2; go_ret2
    exact ⟨by rw [← H1.out, ← H2.out]; rfl, (Fr.refl _ _).drewN _⟩
  · go_wp2_with fail
    go_quiet (fail)
    go_wp2; go_ret2
    exact ⟨by rw [← H1.out, ← H2.out]; rfl, (Fr.refl _ _).drewN _⟩
  · go_wp2_with fail
    go_quiet (fail)
    go_wp2; go_ret2
    exact ⟨by rw [← H1.out, ← H2.out]; rfl, (Fr.refl _ _).drewN _⟩
  · go_wp2_with fail
    go_quiet (fail)
    go_wp2; go_ret2
    exact ⟨by rw [← H1.out, ← H2.out]; rfl, (Fr.refl _ _).drewN _⟩
theorem tail_any (b a : Nat) (back : Bool) (X : List Kn.Cr) (L : Int) (w : World) (h : ShAt w b X L) (hl : X.length ≤ 16) (ha : Kn.isArc X a) :
    Calls Tryz.prog 62 #[.pointer (some ⟨b, 0, none⟩), .agg #[.int .i64 a, .bool back]] w (GavePl (Kn.head X (a, !back)) w) := by
  obtain ⟨p, HP⟩ : ∃ p, Hid (Kn.head X (a, !back) = p) := ⟨_, Lib.hid rfl⟩
  rw [HP.out]; obtain ⟨x, y⟩ := p; have H := Lib.hid h; have HA := Lib.hid ha; clear h ha
  go_enter Tryz.func62, Tryz.ntmps62
  go_wp2_with fail; have hz := heap_alloc_new (w.alloc (.cells #[.int .i64 (a : Int), .bool back] 26)) (.cells #[.int .i64 0, .int .i64 0] 82); rw [World.size_alloc] at hz; have HZ := Lib.hid hz; have HN := Lib.hid (((Fr.refl (fun _ => False) w).alloc (.cells #[.int .i64 (a : Int), .bool back] 26)).alloc (.cells #[.int .i64 0, .int .i64 0] 82)); clear hz; refine (head_any b a (!back) X L _ (New.shAt HN.out H.out) hl HA.out).mono ?_; rintro e w4 ⟨rfl, hF⟩; rw [HP.out]; have HR := Lib.hid (hF.blk HZ.out fun x => x); have HF := Lib.hid (HN.out.trans hF); clear hF
  obtain ⟨m1, m2, m3, m4, m5, m6⟩ := res2 HR.out; go_wp2
  refine bodyPost_ret (v := .agg #[.int .i64 (x : Int), .int .i64 (y : Int)]) (by simp [results, Tryz.results62, go_sem, m5, m6]) rfl ⟨rfl, ?_⟩
  exact (HF.out.setCell (.inr (Nat.le_succ _)) _).setCell (.inr (Nat.le_succ _)) _
end Go.Proofs.YtgjmjbgicfkojaaGreat
