/- Walks: the table of a diagram's crossings and overpasses. -/
import Derived.Test.YtcfpdeeipbekfaaQ8
namespace Go.Proofs.Ytcfpdeeipbekfaa
open Go.RowKit Go.Maps

theorem info73 : (Try.prog.info? 99).map (fun i => (i.zero, i.size, i.bytes)) = some (some (.slice none 0 0), 1, 24) := by kernel_rfl
theorem ov_lt {X : List Kn.Cr} (hX : Kn.Ok X) {a : Nat} (h1 : 1 ≤ a) (h2 : a ≤ Kn.nArcs X) : Kn.overP X a < Kn.manyP X := by
  have hR := hX.cls_rep X.length (Nat.le_refl _)
  exact Kn.ovN_lt (hR.pos a h1) (hR.idem a) (by have := hR.le a; omega)
theorem many_le (X : List Kn.Cr) : Kn.manyP X ≤ 2 * X.length := by
  have := List.countP_le_length (p := fun b => decide (Kn.clsP X X.length (b + 1) = b + 1)) (l := List.range (Kn.nArcs X))
  unfold Kn.manyP Kn.ovM
  rw [List.length_range] at this
  unfold Kn.nArcs at this ⊢
  omega
theorem RW.fr {S : Nat → Prop} {w w' : World} (h : Fr S w w') (hS : ∀ k, S k → ∃ c, w.heap[k]? = some (.cells c 99 (0, 0))) {Rb m : Nat} {r : Nat → List Pl.T} (hr : RW w Rb m r) : RW w' Rb m r := by
  obtain ⟨f, h1, h2⟩ := hr
  refine ⟨f, h.row h1 fun hs => ?_, fun j hj => ?_⟩
  · obtain ⟨c, hc⟩ := hS _ hs
    obtain ⟨c', hc', _⟩ := h1
    rw [hc] at hc'
    injection hc' with e
    injection e with e1 e2
    cases e2
  · obtain ⟨b, D, e, ⟨es, clock, hb, r1⟩, hd⟩ := h2 j hj
    refine ⟨b, D, e, ⟨es, clock, h.blk hb fun hs => ?_, r1⟩, hd⟩
    obtain ⟨c, hc⟩ := hS _ hs
    rw [hc] at hb
    cases hb
/- the rows so far -/
structure TbW (w wr : World) (mv : Value) (k many : Nat) (X : List Kn.Cr) (rows : List Nat) : Prop where
  own : wr.ownsRow w.heap.size 99 1 mv k (rows.map fun R => .slice (some ⟨R, 0, none⟩) many many)
  len : rows.length = k
  row : ∀ i, i < k → RW wr (rows.getD i 0) many (Kn.entA X i)
  new : New w wr
theorem TbW.nw {w wr w' : World} {mv : Value} {k many : Nat} {X : List Kn.Cr} {rows : List Nat} (h : TbW w wr mv k many X rows) (hn : New wr w') : TbW w w' mv k many X rows :=
  ⟨hn.owns h.own fun _ _ x => x, h.len, fun i hi => hn.rw (h.row i hi), h.new.trans hn⟩
theorem ts_one (W : World) (x y : Int) : Ts (W.alloc (.cells #[.int .i64 x, .int .i64 y] 58)) (.slice (some ⟨W.heap.size, 0, none⟩) 1 1) [(x, y)] := by
  refine ⟨_, 1, rfl, .inr ⟨_, 0, rfl, fun i hi => ?_⟩⟩
  obtain rfl : i = 0 := by simp at hi; omega
  exact ⟨cell_two_new W _ _ 58 0 _ rfl, cell_two_new W _ _ 58 1 _ rfl⟩
theorem ts_two (W : World) (x y z u : Int) : Ts (W.alloc (.cells #[.int .i64 x, .int .i64 y, .int .i64 z, .int .i64 u] 58)) (.slice (some ⟨W.heap.size, 0, none⟩) 2 2) [(x, y), (z, u)] := by
  have hg : (W.alloc (.cells #[.int .i64 x, .int .i64 y, .int .i64 z, .int .i64 u] 58)).heap[W.heap.size]? = some (.cells #[.int .i64 x, .int .i64 y, .int .i64 z, .int .i64 u] 58 (0, 0)) := heap_alloc_new W _
  refine ⟨_, 2, rfl, .inr ⟨_, 0, rfl, fun i hi => ?_⟩⟩
  have hi' : i < 2 := by simpa using hi
  match i, hi' with
  | 0, _ => exact ⟨(cell_of_row _ _ 0 _ 58 (0, 0) hg).trans rfl, (cell_of_row _ _ 1 _ 58 (0, 0) hg).trans rfl⟩
  | 1, _ => exact ⟨(cell_of_row _ _ 2 _ 58 (0, 0) hg).trans rfl, (cell_of_row _ _ 3 _ 58 (0, 0) hg).trans rfl⟩
/- rows with bounds -/
def BdR (r : Nat → List Pl.T) (z : Nat) : Prop := ∀ j, Pl.size (r j) ≤ z ∧ Pl.ExpsW 1 (r j)
theorem BdR.zero : BdR (fun _ => []) 0 := fun _ => ⟨Nat.le_refl _, fun t ht => by simp at ht⟩
theorem BdR.add {r : Nat → List Pl.T} {z : Nat} (h : BdR r z) {l : List Pl.T} (hs : Pl.size l ≤ 2) (he : Pl.ExpsW 1 l) (i : Nat) : BdR (addR r i l) (z + 2) := fun j => by
  unfold addR
  split
  · rw [Pl.size_app]
    refine ⟨by have := (h j).1; omega, fun t ht => ?_⟩
    rcases List.mem_append.1 ht with ht | ht
    · exact (h j).2 t ht
    · exact he t ht
  · exact ⟨by have := (h j).1; omega, (h j).2⟩
theorem ex01 : Pl.ExpsW 1 [(0, 1)] := fun t ht => by rw [List.mem_singleton] at ht; subst ht; decide
theorem ex1m : Pl.ExpsW 1 [(1, -1)] := fun t ht => by rw [List.mem_singleton] at ht; subst ht; decide
theorem ex2 : Pl.ExpsW 1 [(1, 1), (0, -1)] := fun t ht => by
  simp only [List.mem_cons, List.not_mem_nil, or_false] at ht
  rcases ht with rfl | rfl <;> decide
theorem bd1 (i : Nat) : BdR (addR (fun _ => []) i [(0, 1)]) 2 := BdR.zero.add (by decide) ex01 i
theorem bd2 (i j : Nat) : BdR (addR (addR (fun _ => []) i [(0, 1)]) j [(1, -1)]) 4 := (bd1 i).add (by decide) ex1m j
theorem RW.congr {w : World} {Rb m : Nat} {r r' : Nat → List Pl.T} (h : RW w Rb m r) (e : ∀ j, j < m → r j = r' j) : RW w Rb m r' := by
  obtain ⟨f, h1, h2⟩ := h
  exact ⟨f, h1, fun j hj => by rw [← e j hj]; exact h2 j hj⟩
theorem put_ov (B8 B2 Rb ob m mm a : Nat) (X : List Kn.Cr) (r : Nat → List Pl.T) (z : Nat) (v : Value) (l : List Pl.T) (w : World)
    (h8 : w.heap[B8]? = some (.cells #[.slice (some ⟨Rb, 0, none⟩) m m] 99 (0, 0))) (h2 : w.heap[B2]? = some (.cells #[.slice (some ⟨ob, 0, none⟩) mm mm] 22 (0, 0))) (ho : w.rowIs ob 3 mm (numFn (ovF X mm))) (hr : RW w Rb m r) (hb : BdR r z) (hz : z ≤ 10)
    (n1 : B8 ≠ Rb) (n2 : B2 ≠ Rb) (n3 : ob ≠ Rb) (ha : 1 ≤ a ∧ a < mm) (hg : Kn.overP X a < m) (hm : m ≤ 20) (hmm : mm ≤ 21) (hv : Ts w v l) (hl : l.length ≤ 2) (hs : Pl.size l ≤ 2) (he : Pl.ExpsW 1 l) :
    Calls Try.prog 51 #[.int .i64 a, v, .pointer (some ⟨B8, 0, none⟩), .pointer (some ⟨B2, 0, none⟩)] w (fun e w' => (∃ u, e = .returned u) ∧ Fr (fun k => k = Rb) w w' ∧ RW w' Rb m (addR r (Kn.overP X a) l)) := by
  have e : ovF X mm a = Kn.overP X a := by unfold ovF; rw [if_pos ha]
  have := put_any B8 B2 Rb ob m mm a (ovF X mm) r v l w (by simp [World.cell?, h8]) (by simp [World.cell?, h2]) ho hr n1 n2 n3 ha.2 (by rw [e]; exact hg) (by omega) (by omega) hv hl hs he (by rw [e]; have := (hb (Kn.overP X a)).1; omega) (by rw [e]; exact (hb _).2)
  rwa [e] at this
theorem add3 (X : List Kn.Cr) (k j : Nat) : addR (addR (addR (fun _ => []) (Kn.overP X (Kn.aTo X k)) [(0, 1)]) (Kn.overP X (Kn.aIn X k)) [(1, -1)]) (Kn.overP X (Kn.arcN X (k, 1))) [(1, 1), (0, -1)] j = Kn.entA X k j := by
  unfold Kn.entA
  simp only [addR]
  by_cases c1 : j = Kn.overP X (Kn.aTo X k) <;> by_cases c2 : j = Kn.overP X (Kn.aIn X k) <;> by_cases c3 : j = Kn.overP X (Kn.arcN X (k, 1)) <;>
    simp [c1, c2, c3, eq_comm] <;> simp_all [eq_comm]
theorem own_obj {w : World} {base : Nat} {e : TypeId} {size : Nat} {v : Value} {n : Nat} {xs : List Value} (h : w.ownsRow base e size v n xs) : ∀ k, v.ownBlock = some k → ∃ c, w.heap[k]? = some (.cells c e (0, 0)) := by
  intro k hk
  rcases h.2 with ⟨rfl, _⟩ | ⟨g, cap, cur, rfl, _, h3, _⟩
  · cases hk
  · cases hk
    exact ⟨_, h3⟩
theorem cell_one_new (w : World) (x : Value) (t : TypeId) : ∀ j u, [x][j]? = some u → (w.alloc (.cells #[x] t)).cell? ((⟨w.heap.size, 0, none⟩ : Addr).add j) = some u := by
  intro j u hj
  have hg : (w.alloc (.cells #[x] t)).heap[w.heap.size]? = some (.cells #[x] t (0, 0)) := heap_alloc_new w _
  match j, hj with
  | 0, hj => exact (cell_of_row _ _ 0 _ t (0, 0) hg).trans (by simpa using hj)
theorem TbW.lower {w0 w wr : World} {mv : Value} {k m : Nat} {X : List Kn.Cr} {rows : List Nat} (h : TbW w wr mv k m X rows) (hn : New w0 w) : TbW w0 wr mv k m X rows := by
  refine ⟨⟨h.own.1, ?_⟩, h.len, h.row, hn.trans h.new⟩
  rcases h.own.2 with h | ⟨g, cap, cur, h1, h2, h3⟩
  · exact .inl h
  · exact .inr ⟨g, cap, cur, h1, Nat.le_trans hn.size h2, h3⟩
theorem TbW.snoc {w wo w9 w10 : World} {mv v' : Value} {k m Rb : Nat} {X : List Kn.Cr} {rows : List Nat} (h : TbW w wo mv k m X rows) (hn : New wo w9) (hr : RW w9 Rb m (Kn.entA X k))
    (hown : w10.ownsRow w.heap.size 99 1 v' (k + 1) (rows.map (fun R => .slice (some ⟨R, 0, none⟩) m m) ++ [.slice (some ⟨Rb, 0, none⟩) m m])) {o : Obj} (hg : (w9.alloc o).grownBy w10 mv.ownBlock) : TbW w w10 v' (k + 1) m X (rows ++ [Rb]) := by
  have h9 := h.nw hn
  have hF : Fr (fun k => mv.ownBlock = some k) w9 w10 := ((Fr.refl _ w9).alloc o).grown hg fun k ek => .inl ek
  refine ⟨by rw [List.map_append]; exact hown, by simp [h.len], fun i hi => ?_, (h9.new.alloc o).grown hg fun kb ek => .inr ((h9.own).lt kb ek).1⟩
  by_cases c : i < k
  · rw [List.getD_eq_getElem?_getD, List.getElem?_append_left (by rw [h.len]; exact c), ← List.getD_eq_getElem?_getD]
    exact (h9.row i c).fr hF (own_obj h9.own)
  · obtain rfl : i = k := by omega
    rw [List.getD_eq_getElem?_getD, List.getElem?_append_right (by rw [h.len]; exact Nat.le_refl _), h.len, Nat.sub_self]
    exact hr.fr hF (own_obj h9.own)
set_option maxRecDepth 100000 in
set_option maxHeartbeats 4000000 in
theorem table_any (b n : Nat) (X : List Kn.Cr) (L : Int) (w : World) (h : ShAt w b X L) (hX : Kn.Ok X) (hn : n = X.length) (h10 : n ≤ 10) :
    Calls Try.prog 33 #[.pointer (some ⟨b, 0, none⟩)] w (fun e w' => ∃ mv rows, e = .returned mv ∧ TbW w w' mv n (Kn.manyP X) X rows) := by
  obtain ⟨a0, c0, hs0, hs1, hcr⟩ := h.crs
  rw [← hn] at hs0
  obtain ⟨m, hm⟩ : ∃ m, m = Kn.manyP X := ⟨_, rfl⟩
  have hm20 : m ≤ 20 := by rw [hm]; have := many_le X; omega
  have HCR := Lib.hid hcr
  have HS0 := Lib.hid hs0
  have HS := Lib.hid h
  have HX := Lib.hid hX
  have HN := Lib.hid hn
  have HM := Lib.hid hm
  have hmk := make73q m (by omega)
  rw [← hm]
  obtain ⟨O, HO⟩ : ∃ X, Hid (X = Obj.cells (madeCells #[.map none] m) 101) := ⟨_, Lib.hid rfl⟩
  rw [← HO.out] at hmk
  have hmm := @run_makeMap Try.prog
  clear hcr hs0 hs1 h hX hn hm
  go_enter Try.func33, Try.ntmps33
  go_wp2_with fail
  refine (passes_any b n X L _ HS.out HX.out HN.out (by omega)).mono ?_
  rintro e w1 ⟨ob, rfl, ho, hn1, hlo⟩
  rw [← HM.out]
  obtain ⟨mm, HMM⟩ : ∃ mm, Hid (mm = 2 * n + 1) := ⟨_, Lib.hid rfl⟩
  have hmm21 : mm ≤ 21 := by have := HMM.out; omega
  rw [← HMM.out] at ho ⊢
  obtain ⟨B2, HB2⟩ : ∃ B, Hid (B = w1.heap.size) := ⟨_, Lib.hid rfl⟩
  have s0 := (hn1.alloc (.cells #[.slice (some ⟨ob, 0, none⟩) mm mm] 22)).cell HS0.out fun x => x
  go_wp2_with fail
  obtain ⟨w2, HW2⟩ : ∃ w2, Hid (w2 = w1.alloc (.cells #[.slice (some ⟨ob, 0, none⟩) mm mm] 22)) := ⟨_, Lib.hid rfl⟩
  have HNw2 : Hid (New w w2) := Lib.hid (by rw [HW2.out]; exact hn1.alloc _)
  have HOV : Hid (w2.rowIs ob 3 mm (numFn (ovF X mm))) := Lib.hid (by rw [HW2.out]; exact ho.alloc _)
  have HBX : Hid (w2.heap[B2]? = some (.cells #[.slice (some ⟨ob, 0, none⟩) mm mm] 22 (0, 0))) := Lib.hid (by rw [HW2.out, HB2.out]; exact heap_alloc_new _ _)
  rw [← HW2.out, ← HB2.out]
  clear s0 hn1 ho hlo
  go_loopw [5, 24] (fun mv i wr => ∃ (k : Nat) (rows : List Nat), k ≤ n ∧ i = .int .i64 k ∧ Hid (TbW w2 wr mv k m X rows)) (fun _ i _ => n - (intOf i).toNat)
  case atStart => exact ⟨0, [], by omega, rfl, Lib.hid ⟨⟨rfl, .inl ⟨rfl, rfl⟩⟩, rfl, fun i hi => absurd hi (by omega), Fr.refl _ _⟩⟩
  case round =>
    obtain ⟨k, rows, hk, rfl, HT⟩ := hrel
    have HF := Lib.hid HT.out.new
    obtain ⟨wo, rfl⟩ : ∃ wo : World, wo = wr := ⟨_, rfl⟩
    by_cases hkn : k < n
    · have hkX : k < X.length := by have := HN.out; omega
      obtain ⟨bx, ox, rfl, hx⟩ := (New.crs (HNw2.out.trans HT.out.new) HCR.out).at hkX
      obtain ⟨xa, xb, xc, xd, xp, HXC⟩ := Kn.cr_parts' X k
      have hr0 := HX.out.rng (k, 0) ⟨hkX, by show 0 < 4; omega⟩
      have hr1 := HX.out.rng (k, 1) ⟨hkX, by show 1 < 4; omega⟩
      have hr2 := HX.out.rng (k, 2) ⟨hkX, by show 2 < 4; omega⟩
      have at0 : Kn.at_ X (k, 0) = xa := by unfold Kn.at_; simp only; rw [HXC.out]; rfl
      have at1 : Kn.at_ X (k, 1) = xb := by unfold Kn.at_; simp only; rw [HXC.out]; rfl
      have at2 : Kn.at_ X (k, 2) = xc := by unfold Kn.at_; simp only; rw [HXC.out]; rfl
      rw [at0] at hr0
      rw [at1] at hr1
      rw [at2] at hr2
      obtain ⟨ua, hua⟩ : ∃ u : Nat, xa = u := ⟨xa.toNat, by omega⟩
      obtain ⟨ub, hub⟩ : ∃ u : Nat, xb = u := ⟨xb.toNat, by omega⟩
      obtain ⟨uc, huc⟩ : ∃ u : Nat, xc = u := ⟨xc.toNat, by omega⟩
      subst hua hub huc
      have HA : Hid (Kn.arcN X (k, 0) = ua) := Lib.hid (by unfold Kn.arcN; rw [at0]; rfl)
      have HB : Hid (Kn.arcN X (k, 1) = ub) := Lib.hid (by unfold Kn.arcN; rw [at1]; rfl)
      have HC : Hid (Kn.arcN X (k, 2) = uc) := Lib.hid (by unfold Kn.arcN; rw [at2]; rfl)
      have HP : Hid ((Kn.cr X k).p = xp) := Lib.hid (by rw [HXC.out])
      have hna : Kn.nArcs X = 2 * n := by rw [HN.out]; unfold Kn.nArcs; omega
      rw [hna] at hr0 hr1 hr2
      have HRA : Hid (1 ≤ ua ∧ ua < mm) := Lib.hid (by have := HMM.out; omega)
      have HRB : Hid (1 ≤ ub ∧ ub < mm) := Lib.hid (by have := HMM.out; omega)
      have HRC : Hid (1 ≤ uc ∧ uc < mm) := Lib.hid (by have := HMM.out; omega)
      rw [HXC.out] at hx
      obtain ⟨x1, x2, x3, x4, x5⟩ := hx
      have i1 : (0 : Int) ≤ (k : Int) := by omega
      have i2 : (k : Int) < (n : Int) := by omega
      clear hr0 hr1 hr2 at0 at1 at2 hna
      go_wp2_with fail
      obtain ⟨Bc, HBc⟩ : ∃ B, Hid (B = wo.heap.size) := ⟨_, Lib.hid rfl⟩
      obtain ⟨Rb, HRb⟩ : ∃ B, Hid (B = wo.heap.size + 1) := ⟨_, Lib.hid rfl⟩
      obtain ⟨B8, HB8⟩ : ∃ B, Hid (B = wo.heap.size + 1 + 1) := ⟨_, Lib.hid rfl⟩
      obtain ⟨w3, HW3⟩ : ∃ w3, Hid (w3 = ((wo.alloc (.cells #[.int .i64 ua, .int .i64 ub, .int .i64 uc, .int .i64 xd, .bool xp] 81)).alloc O).alloc (.cells #[.slice (some ⟨wo.heap.size + 1, 0, none⟩) m m] 99)) := ⟨_, Lib.hid rfl⟩
      rw [← HW3.out, ← HB8.out, ← HRb.out, ← HBc.out]
      have e1 : (wo.alloc (.cells #[.int .i64 ua, .int .i64 ub, .int .i64 uc, .int .i64 xd, .bool xp] 81)).heap.size = wo.heap.size + 1 := by simp
      have e2 : ((wo.alloc (.cells #[.int .i64 ua, .int .i64 ub, .int .i64 uc, .int .i64 xd, .bool xp] 81)).alloc O).heap.size = wo.heap.size + 1 + 1 := by simp
      have HN3 : Hid (New wo w3) := Lib.hid (by rw [HW3.out]; exact (((Fr.refl _ _).alloc _).alloc _).alloc _)
      have HXC3 : Hid (w3.heap[Bc]? = some (.cells #[.int .i64 ua, .int .i64 ub, .int .i64 uc, .int .i64 xd, .bool xp] 81 (0, 0))) := Lib.hid (by
        rw [HW3.out, HBc.out]
        exact (((Fr.refl (fun _ => False) _).alloc O).alloc _).blk (heap_alloc_new wo _) fun x => x)
      have HR3 : Hid (w3.rowIs Rb 101 m fun _ => .map none) := Lib.hid (by
        rw [HW3.out, HRb.out, ← e1, HO.out]
        exact (World.rowIs_made _ (.map none) m 101).alloc _)
      have H83 : Hid (w3.heap[B8]? = some (.cells #[.slice (some ⟨Rb, 0, none⟩) m m] 99 (0, 0))) := Lib.hid (by
        rw [HW3.out, HB8.out, HRb.out, ← e2]
        exact heap_alloc_new _ _)
      have nBc : Bc ≠ Rb := by rw [HBc.out, HRb.out]; omega
      have nB8 : B8 ≠ Rb := by rw [HB8.out, HRb.out]; omega
      have hRlo : wo.heap.size ≤ Rb := by rw [HRb.out]; omega
      clear e1 e2
      go_loopw [32] (fun i wi => ∃ (j : Nat) (f : Nat → Value), j ≤ m ∧ i = .int .i64 j ∧ Hid (wi.rowIs Rb 101 m f) ∧ Hid (∀ q, q < j → Wk wi (f q) [] 3) ∧ Hid (Fr (fun k => k = Rb) w3 wi)) (fun i _ => m - (intOf i).toNat)
      case atStart => exact ⟨0, _, by omega, rfl, HR3, Lib.hid fun q hq => absurd hq (by omega), Lib.hid (Fr.refl _ _)⟩
      case round =>
        obtain ⟨j, f, hj, rfl, HRi, HWi, HFi⟩ := hrel
        by_cases hjm : j < m
        · have c8 := HFi.out.cell (a := ⟨B8, 0, none⟩) (v := .slice (some ⟨Rb, 0, none⟩) m m) (by simp [World.cell?, H83.out]) nB8
          have i3 : (0 : Int) ≤ (j : Int) := by omega
          have i4 : (j : Int) < (m : Int) := by omega
          have q1 := (HRi.out.alloc (.map #[] 0)).cell (i := j) hjm
          have q2 := (HRi.out.alloc (.map #[] 0)).frozen j
          go_wp2
          go_roundw
          case rel =>
            refine ⟨j + 1, _, by omega, by go_num, Lib.hid ((HRi.out.alloc _).set j _), Lib.hid fun q hq => ?_, Lib.hid ((HFi.out.alloc _).setCell (a := ⟨Rb, j, none⟩) (.inl rfl) _)⟩
            by_cases c : q = j
            · rw [if_pos c]
              have h3 : Wk (wr.alloc (.map #[] 0)) (.map (some wr.heap.size)) [] (2 * 1 + 1) := Wk.tight (n := 0) ⟨_, .map [], rfl, World.ownsMap_made _ _ _ _, RD.empty⟩ fun t ht => absurd ht (by simp)
              exact Wk.set h3 (HRi.out.alloc _) _ _
            · rw [if_neg c]
              exact Wk.set (New.wk ((Fr.refl _ _).alloc _) (HWi.out q (by omega))) (HRi.out.alloc _) _ _
          case measure => simp [intOf]; omega
        · obtain rfl : j = m := by omega
          have HRW : Hid (RW wr Rb j fun _ => []) := Lib.hid ⟨f, HRi.out, fun q hq => HWi.out q hq⟩
          have HNi : Hid (New wo wr) := Lib.hid (HN3.out.next HFi.out fun i hi => .inr (by rw [hi]; exact hRlo))
          have HXCi : Hid (wr.heap[Bc]? = some (.cells #[.int .i64 ua, .int .i64 ub, .int .i64 uc, .int .i64 xd, .bool xp] 81 (0, 0))) := Lib.hid (HFi.out.blk HXC3.out nBc)
          have H8i : Hid (wr.heap[B8]? = some (.cells #[.slice (some ⟨Rb, 0, none⟩) j j] 99 (0, 0))) := Lib.hid (HFi.out.blk H83.out nB8)
          clear HRi HWi HFi HR3 HXC3 H83 HN3 HW3
          have HN2 : Hid (B2 ≠ Rb) := Lib.hid (by have := (Array.getElem?_eq_some_iff.1 HBX.out).1; have := HF.out.size; omega)
          have HN3' : Hid (ob ≠ Rb) := Lib.hid (by have := HOV.out.lt; have := HF.out.size; omega)
          have HG : Hid (∀ a, 1 ≤ a ∧ a < mm → Kn.overP X a < j) := Lib.hid fun a ha => by rw [HM.out]; exact ov_lt HX.out ha.1 (by have := HMM.out; have := HN.out; unfold Kn.nArcs; omega)
          have HOVi := Lib.hid ((HF.out.trans HNi.out).row HOV.out fun x => x)
          have HBXi := Lib.hid ((HF.out.trans HNi.out).blk HBX.out fun x => x)
          have HTi := Lib.hid (HT.out.nw HNi.out)
          have k0 : wr.cell? ⟨Bc, 0, none⟩ = some (.int .i64 ua) := by simp [World.cell?, HXCi.out]
          have k1 : wr.cell? ⟨Bc, 1, none⟩ = some (.int .i64 ub) := by simp [World.cell?, HXCi.out]
          have k2 : wr.cell? ⟨Bc, 2, none⟩ = some (.int .i64 uc) := by simp [World.cell?, HXCi.out]
          have k4 : wr.cell? ⟨Bc, 4, none⟩ = some (.bool xp) := by simp [World.cell?, HXCi.out]
          obtain ⟨i0, hi, hz0, hz1, hz2⟩ := info_parts info73
          go_upto_region 13 with fail
          go_quiet (fail)
          cases xp
          · have HTO : Hid (Kn.aTo X k = ua) := Lib.hid (by unfold Kn.aTo; rw [HP.out]; exact HA.out)
            have HIN : Hid (Kn.aIn X k = uc) := Lib.hid (by unfold Kn.aIn; rw [HP.out]; exact HC.out)
            have hD : New wr (wr.drewN nq) := (Fr.refl (fun _ => False) wr).drewN nq
            have kd0 := hD.cell k0 fun x => x
            have kd1 := hD.cell k1 fun x => x
            have kd2 := hD.cell k2 fun x => x
            have kd4 := hD.cell k4 fun x => x
            go_wp2_with fail
            clear k0 k1 k2 k4 kd0 kd2 kd4
            have f1 := ((Fr.refl (fun k => k = Rb) wr).drewN nq).alloc (.cells #[.int .i64 0, .int .i64 1] 58)
            have g1 := hD.alloc (.cells #[.int .i64 0, .int .i64 1] 58)
            refine (put_ov B8 B2 Rb ob j mm ua X (fun _ => []) 0 _ [(0, 1)] _ (g1.blk H8i.out fun x => x) (g1.blk HBXi.out fun x => x) (g1.row HOVi.out fun x => x) (New.rw g1 HRW.out) BdR.zero (by omega) nB8 HN2.out HN3'.out HRA.out (HG.out _ HRA.out) (by omega) (by omega) (ts_one (wr.drewN nq) 0 1) (by decide) (by decide) ex01).mono ?_
            rintro e v2 ⟨⟨x2, rfl⟩, hF2, hR2⟩
            have HS2 : Hid (Fr (fun k => k = Rb) wr v2) := Lib.hid (f1.trans hF2)
            have HR2 := Lib.hid hR2
            clear f1 g1 hF2 hR2 hD kd1
            go_wp2_with fail
            have g2 := (Fr.refl (fun _ => False) v2).alloc (.cells #[.int .i64 1, .int .i64 (-1)] 58)
            have f2 := HS2.out.alloc (.cells #[.int .i64 1, .int .i64 (-1)] 58)
            refine (put_ov B8 B2 Rb ob j mm uc X _ 2 _ [(1, -1)] _ (f2.blk H8i.out nB8) (f2.blk HBXi.out HN2.out) (f2.row HOVi.out HN3'.out) (New.rw g2 HR2.out) (bd1 _) (by omega) nB8 HN2.out HN3'.out HRC.out (HG.out _ HRC.out) (by omega) (by omega) (ts_one v2 1 (-1)) (by decide) (by decide) ex1m).mono ?_
            rintro e v3 ⟨⟨x3, rfl⟩, hF3, hR3⟩
            have HS3 : Hid (Fr (fun k => k = Rb) wr v3) := Lib.hid (f2.trans (hF3.mono fun _ h => h))
            have HR3 := Lib.hid hR3
            have c1 : v3.cell? ⟨Bc, 1, none⟩ = some (.int .i64 ub) := by simp [World.cell?, HS3.out.blk HXCi.out nBc]
            clear f2 g2 hF3 hR3
            go_wp2_with fail
            have g3 := (Fr.refl (fun _ => False) v3).alloc (.cells #[.int .i64 1, .int .i64 1, .int .i64 0, .int .i64 (-1)] 58)
            have f3 := HS3.out.alloc (.cells #[.int .i64 1, .int .i64 1, .int .i64 0, .int .i64 (-1)] 58)
            refine (put_ov B8 B2 Rb ob j mm ub X _ 4 _ [(1, 1), (0, -1)] _ (f3.blk H8i.out nB8) (f3.blk HBXi.out HN2.out) (f3.row HOVi.out HN3'.out) (New.rw g3 HR3.out) (bd2 _ _) (by omega) nB8 HN2.out HN3'.out HRB.out (HG.out _ HRB.out) (by omega) (by omega) (ts_two v3 1 1 0 (-1)) (by decide) (by decide) ex2).mono ?_
            rintro e v4 ⟨⟨x4, rfl⟩, hF4, hR4⟩
            have HS4 : Hid (Fr (fun k => k = Rb) wr v4) := Lib.hid (f3.trans hF4)
            have HR4 : Hid (RW v4 Rb j (Kn.entA X k)) := Lib.hid (hR4.congr fun q _ => by rw [← add3, HTO.out, HIN.out, HB.out])
            have HN4 : Hid (New wo v4) := Lib.hid (HNi.out.next HS4.out fun i hi => .inr (by rw [hi]; exact hRlo))
            have HT4 := Lib.hid (HT.out.nw HN4.out)
            have c8 : v4.cell? ⟨B8, 0, none⟩ = some (.slice (some ⟨Rb, 0, none⟩) j j) := by simp [World.cell?, HS4.out.blk H8i.out nB8]
            clear f3 g3 hF4 hR4 c1
            go_wp2_with (first
              | (at_builtin; refine wpList_append_own _ rfl _ _ 97 rfl w2.heap.size 99 i0 (.slice none 0 0) 1 24 Try.underlying97 hi hz0 hz1 hz2 rfl (by decide) _ k (rows.map fun R => .slice (some ⟨R, 0, none⟩) j j) rfl (World.ownsRow.alloc HT4.out.own _) ⟨_, 0, none⟩ 1 1 [.slice (some ⟨Rb, 0, none⟩) j j] rfl rfl (cell_one_new _ _ _) (by simp [Value.oneCell']) (by unfold maxLen; omega) (by omega) (by have := HT4.out.new.size; simp; omega) ?_; intro v' w9 hown hgrow _)
              | go_in)
            have HT9 := Lib.hid (HT.out.snoc HN4.out HR4.out hown hgrow)
            clear hown hgrow
            go_wp2
            go_roundw
            case rel => exact ⟨k + 1, _, by omega, by go_num, HT9⟩
            case measure => simp [intOf]; omega
          · have HTO : Hid (Kn.aTo X k = uc) := Lib.hid (by unfold Kn.aTo; rw [HP.out]; exact HC.out)
            have HIN : Hid (Kn.aIn X k = ua) := Lib.hid (by unfold Kn.aIn; rw [HP.out]; exact HA.out)
            have hD : New wr (wr.drewN nq) := (Fr.refl (fun _ => False) wr).drewN nq
            have kd0 := hD.cell k0 fun x => x
            have kd1 := hD.cell k1 fun x => x
            have kd2 := hD.cell k2 fun x => x
            have kd4 := hD.cell k4 fun x => x
            go_wp2_with fail
            clear k0 k1 k2 k4 kd0 kd2 kd4
            have f1 := ((Fr.refl (fun k => k = Rb) wr).drewN nq).alloc (.cells #[.int .i64 0, .int .i64 1] 58)
            have g1 := hD.alloc (.cells #[.int .i64 0, .int .i64 1] 58)
            refine (put_ov B8 B2 Rb ob j mm uc X (fun _ => []) 0 _ [(0, 1)] _ (g1.blk H8i.out fun x => x) (g1.blk HBXi.out fun x => x) (g1.row HOVi.out fun x => x) (New.rw g1 HRW.out) BdR.zero (by omega) nB8 HN2.out HN3'.out HRC.out (HG.out _ HRC.out) (by omega) (by omega) (ts_one (wr.drewN nq) 0 1) (by decide) (by decide) ex01).mono ?_
            rintro e v2 ⟨⟨x2, rfl⟩, hF2, hR2⟩
            have HS2 : Hid (Fr (fun k => k = Rb) wr v2) := Lib.hid (f1.trans hF2)
            have HR2 := Lib.hid hR2
            clear f1 g1 hF2 hR2 hD kd1
            go_wp2_with fail
            have g2 := (Fr.refl (fun _ => False) v2).alloc (.cells #[.int .i64 1, .int .i64 (-1)] 58)
            have f2 := HS2.out.alloc (.cells #[.int .i64 1, .int .i64 (-1)] 58)
            refine (put_ov B8 B2 Rb ob j mm ua X _ 2 _ [(1, -1)] _ (f2.blk H8i.out nB8) (f2.blk HBXi.out HN2.out) (f2.row HOVi.out HN3'.out) (New.rw g2 HR2.out) (bd1 _) (by omega) nB8 HN2.out HN3'.out HRA.out (HG.out _ HRA.out) (by omega) (by omega) (ts_one v2 1 (-1)) (by decide) (by decide) ex1m).mono ?_
            rintro e v3 ⟨⟨x3, rfl⟩, hF3, hR3⟩
            have HS3 : Hid (Fr (fun k => k = Rb) wr v3) := Lib.hid (f2.trans (hF3.mono fun _ h => h))
            have HR3 := Lib.hid hR3
            have c1 : v3.cell? ⟨Bc, 1, none⟩ = some (.int .i64 ub) := by simp [World.cell?, HS3.out.blk HXCi.out nBc]
            clear f2 g2 hF3 hR3
            go_wp2_with fail
            have g3 := (Fr.refl (fun _ => False) v3).alloc (.cells #[.int .i64 1, .int .i64 1, .int .i64 0, .int .i64 (-1)] 58)
            have f3 := HS3.out.alloc (.cells #[.int .i64 1, .int .i64 1, .int .i64 0, .int .i64 (-1)] 58)
            refine (put_ov B8 B2 Rb ob j mm ub X _ 4 _ [(1, 1), (0, -1)] _ (f3.blk H8i.out nB8) (f3.blk HBXi.out HN2.out) (f3.row HOVi.out HN3'.out) (New.rw g3 HR3.out) (bd2 _ _) (by omega) nB8 HN2.out HN3'.out HRB.out (HG.out _ HRB.out) (by omega) (by omega) (ts_two v3 1 1 0 (-1)) (by decide) (by decide) ex2).mono ?_
            rintro e v4 ⟨⟨x4, rfl⟩, hF4, hR4⟩
            have HS4 : Hid (Fr (fun k => k = Rb) wr v4) := Lib.hid (f3.trans hF4)
            have HR4 : Hid (RW v4 Rb j (Kn.entA X k)) := Lib.hid (hR4.congr fun q _ => by rw [← add3, HTO.out, HIN.out, HB.out])
            have HN4 : Hid (New wo v4) := Lib.hid (HNi.out.next HS4.out fun i hi => .inr (by rw [hi]; exact hRlo))
            have HT4 := Lib.hid (HT.out.nw HN4.out)
            have c8 : v4.cell? ⟨B8, 0, none⟩ = some (.slice (some ⟨Rb, 0, none⟩) j j) := by simp [World.cell?, HS4.out.blk H8i.out nB8]
            clear f3 g3 hF4 hR4 c1
            go_wp2_with (first
              | (at_builtin; refine wpList_append_own _ rfl _ _ 97 rfl w2.heap.size 99 i0 (.slice none 0 0) 1 24 Try.underlying97 hi hz0 hz1 hz2 rfl (by decide) _ k (rows.map fun R => .slice (some ⟨R, 0, none⟩) j j) rfl (World.ownsRow.alloc HT4.out.own _) ⟨_, 0, none⟩ 1 1 [.slice (some ⟨Rb, 0, none⟩) j j] rfl rfl (cell_one_new _ _ _) (by simp [Value.oneCell']) (by unfold maxLen; omega) (by omega) (by have := HT4.out.new.size; simp; omega) ?_; intro v' w9 hown hgrow _)
              | go_in)
            have HT9 := Lib.hid (HT.out.snoc HN4.out HR4.out hown hgrow)
            clear hown hgrow
            go_wp2
            go_roundw
            case rel => exact ⟨k + 1, _, by omega, by go_num, HT9⟩
            case measure => simp [intOf]; omega
    · obtain rfl : k = n := by omega
      go_wp2
      go_ret
      exact ⟨_, rows, rfl, HT.out.lower HNw2.out⟩
end Go.Proofs.Ytcfpdeeipbekfaa
