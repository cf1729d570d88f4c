/- Walks: Arcs, At, Other, Next, Head, Left. -/
import Derived.Test.YtgjmjbgicfkojaaGreatW5
/- Walks: Arcs, At, Other, Next, Head, Left. -/
namespace Go.Proofs.YtgjmjbgicfkojaaGreat
open Go.RowKit

structure ShR (w : World) (b n : Nat) (X : List Kn.Cr) (bx ox cc bi bo : Nat) : Prop where
  c0 : w.cell? ⟨b, 0, none⟩ = some (.slice (some ⟨bx, ox, none⟩) n cc)
  c2 : w.cell? ⟨b, 2, none⟩ = some (.slice (some ⟨bi, 0, none⟩) (2 * n + 1) (2 * n + 1))
  c3 : w.cell? ⟨b, 3, none⟩ = some (.slice (some ⟨bo, 0, none⟩) (2 * n + 1) (2 * n + 1))
  cr : ∀ i, i < n → CrAt w bx (ox + i * 5) (Kn.cr X i)
  pi : ∀ j, j < 2 * n + 1 → w.cell? ⟨bi, j * 2, none⟩ = some (.int .i64 ((Kn.inP X j).1 : Nat)) ∧ w.cell? ⟨bi, j * 2 + 1, none⟩ = some (.int .i64 ((Kn.inP X j).2 : Nat))
  po : ∀ j, j < 2 * n + 1 → w.cell? ⟨bo, j * 2, none⟩ = some (.int .i64 ((Kn.outP X j).1 : Nat)) ∧ w.cell? ⟨bo, j * 2 + 1, none⟩ = some (.int .i64 ((Kn.outP X j).2 : Nat))
  len : n = X.length
theorem New.shR {w w' : World} (h : New w w') {b n : Nat} {X : List Kn.Cr} {bx ox cc bi bo : Nat} (s : ShR w b n X bx ox cc bi bo) : ShR w' b n X bx ox cc bi bo :=
  ⟨h.cell s.c0 fun x => x, h.cell s.c2 fun x => x, h.cell s.c3 fun x => x, fun i hi => h.crAt (s.cr i hi) fun x => x, fun j hj => ⟨h.cell (s.pi j hj).1 fun x => x, h.cell (s.pi j hj).2 fun x => x⟩, fun j hj => ⟨h.cell (s.po j hj).1 fun x => x, h.cell (s.po j hj).2 fun x => x⟩, s.len⟩
theorem ShAt.read {w : World} {b : Nat} {X : List Kn.Cr} {L : Int} (h : ShAt w b X L) (hn : 0 < X.length) : ∃ n bx ox cc bi bo, ShR w b n X bx ox cc bi bo := by
  obtain ⟨v, bi, bo, base, s⟩ := h; obtain ⟨a, c, rfl, hc⟩ := CrsAt.of_owns s.own
  rcases hc with hc | ⟨bx, ox, rfl, hc⟩
  · rw [hc] at hn; simp at hn
  · refine ⟨X.length, bx, ox, c, bi, bo, s.c2.1, s.c2.2.2.1, s.c2.2.2.2, hc, fun j hj => ?_, fun j hj => ?_, rfl⟩
    · have h1 := s.ri.cell (i := j * 2) (by unfold mArcs; omega)
      have h2 := s.ri.cell (i := j * 2 + 1) (by unfold mArcs; omega); rw [plFn_0] at h1; rw [plFn_1] at h2
      exact ⟨h1, h2⟩
    · have h1 := s.ro.cell (i := j * 2) (by unfold mArcs; omega)
      have h2 := s.ro.cell (i := j * 2 + 1) (by unfold mArcs; omega); rw [plFn_0] at h1; rw [plFn_1] at h2
      exact ⟨h1, h2⟩

set_option maxHeartbeats 400000 in
theorem arcsN_any (b : Nat) (X : List Kn.Cr) (L : Int) (w : World) (h : ShAt w b X L) (hn : X.length ≤ 16) :
    Calls Tryz.prog 48 #[.pointer (some ⟨b, 0, none⟩)] w fun e w' => e = .returned (.int .i64 (Kn.nArcs X : Nat)) ∧ w = w' := by
  obtain ⟨v, bi, bo, base, s⟩ := h; obtain ⟨a, c, rfl, _⟩ := CrsAt.of_owns s.own; have h0 := s.c2.1
  obtain ⟨n, hn'⟩ : ∃ n, n = X.length := ⟨_, rfl⟩
  rw [← hn'] at h0 hn; have HN := Lib.hid hn'; clear hn' s
  go_enter Tryz.func48, Tryz.ntmps48
  go_wp2; go_ret
  exact ⟨ret_int (by unfold Kn.nArcs; rw [← HN.out]; omega), rfl⟩

set_option maxHeartbeats 1000000 in
theorem at_any (b c s : Nat) (X : List Kn.Cr) (L : Int) (w : World) (h : ShAt w b X L) (hX : Kn.Ok X) (hl : X.length ≤ 16) (hc : c < X.length) (hs : s < 4) :
    Calls Tryz.prog 66 #[.pointer (some ⟨b, 0, none⟩), .agg #[.int .i64 c, .int .i64 s]] w fun e w' => e = .returned (.int .i64 (Kn.arcN X (c, s) : Nat)) ∧ New w w' := by
  obtain ⟨n, bx, ox, cc, bi, bo, r⟩ := h.read (by omega); obtain ⟨g1, g2, g3, g4, g5⟩ := r.cr c (by rw [r.len]; exact hc); have g0 := r.c0
  have i1 : (0 : Int) ≤ (c : Int) := by omega
  have i2 : (c : Int) < (n : Int) := by have := r.len; omega
  obtain ⟨x, HXk⟩ : ∃ x, Hid (x = Kn.cr X c) := ⟨_, Lib.hid rfl⟩
  rw [← HXk.out] at g1 g2 g3 g4 g5; obtain ⟨xa, xb, xc, xd, xp⟩ := x; simp only at g1 g2 g3 g4 g5
  have har : Hid (arcI xa xb xc xd s = (Kn.arcN X (c, s) : Nat)) := Lib.hid (by
    rw [hX.arcN_eq ⟨hc, hs⟩]
    unfold Kn.at_
    rw [← HXk.out]; rfl)
  have HR := Lib.hid r; clear r h hc
  go_enter Tryz.func66, Tryz.ntmps66
  go_wp2; have p0 := cell_alloc g0 (.cells #[.int .i64 (c : Int), .int .i64 (s : Int)] 82); have p1 := cell_alloc g1 (.cells #[.int .i64 (c : Int), .int .i64 (s : Int)] 82); have p2 := cell_alloc g2 (.cells #[.int .i64 (c : Int), .int .i64 (s : Int)] 82); have p3 := cell_alloc g3 (.cells #[.int .i64 (c : Int), .int .i64 (s : Int)] 82); have p4 := cell_alloc g4 (.cells #[.int .i64 (c : Int), .int .i64 (s : Int)] 82); have p5 := cell_alloc g5 (.cells #[.int .i64 (c : Int), .int .i64 (s : Int)] 82)
  have k1 : (w.alloc (.cells #[.int .i64 (c : Int), .int .i64 (s : Int)] 82)).cell? ⟨w.heap.size, 0, none⟩ = some (.int .i64 c) := cell_of_row _ _ 0 _ 82 (0, 0) (heap_alloc_new _ _); have k2 : (w.alloc (.cells #[.int .i64 (c : Int), .int .i64 (s : Int)] 82)).cell? ⟨w.heap.size, 1, none⟩ = some (.int .i64 s) := cell_of_row _ _ 1 _ 82 (0, 0) (heap_alloc_new _ _); have HF0 : Hid (New w (w.alloc (.cells #[.int .i64 (c : Int), .int .i64 (s : Int)] 82))) := Lib.hid ((Fr.refl _ _).alloc _)
  obtain ⟨w1, hw1⟩ : ∃ w1, w.alloc (.cells #[.int .i64 (c : Int), .int .i64 (s : Int)] 82) = w1 := ⟨_, rfl⟩
  rw [hw1] at p0 p1 p2 p3 p4 p5 k1 k2 HF0 ⊢; clear hw1 g0 g1 g2 g3 g4 g5
  go_region_held3 (fun w' => w'.cell? ⟨b, 0, none⟩ = some (.slice (some ⟨bx, ox, none⟩) n cc) ∧ w'.cell? ⟨bx, ox + c * 5, none⟩ = some (.int .i64 xa) ∧ w'.cell? ⟨bx, ox + c * 5 + 1, none⟩ = some (.int .i64 xb) ∧ w'.cell? ⟨bx, ox + c * 5 + 2, none⟩ = some (.int .i64 xc) ∧ w'.cell? ⟨bx, ox + c * 5 + 3, none⟩ = some (.int .i64 xd) ∧ w'.cell? ⟨bx, ox + c * 5 + 4, none⟩ = some (.bool xp) ∧ w'.cell? ⟨w.heap.size, 0, none⟩ = some (.int .i64 c) ∧ w'.cell? ⟨w.heap.size, 1, none⟩ = some (.int .i64 s))
    (first | assumption | go_keep)
    (first
      | (go_at_call 52; refine (arc_any xa xb xc xd xp s _ hs).mono ?_; rintro e w4 ⟨rfl, hF⟩; rw [har.out]; have hq : w4.cell? ⟨b, 0, none⟩ = some (.slice (some ⟨bx, ox, none⟩) n cc) ∧ w4.cell? ⟨bx, ox + c * 5, none⟩ = some (.int .i64 xa) ∧ w4.cell? ⟨bx, ox + c * 5 + 1, none⟩ = some (.int .i64 xb) ∧ w4.cell? ⟨bx, ox + c * 5 + 2, none⟩ = some (.int .i64 xc) ∧ w4.cell? ⟨bx, ox + c * 5 + 3, none⟩ = some (.int .i64 xd) ∧ w4.cell? ⟨bx, ox + c * 5 + 4, none⟩ = some (.bool xp) ∧ w4.cell? ⟨w.heap.size, 0, none⟩ = some (.int .i64 c) ∧ w4.cell? ⟨w.heap.size, 1, none⟩ = some (.int .i64 s) := ⟨hF.cell p0 fun x => x, hF.cell p1 fun x => x, hF.cell p2 fun x => x, hF.cell p3 fun x => x, hF.cell p4 fun x => x, hF.cell p5 fun x => x, hF.cell k1 fun x => x, hF.cell k2 fun x => x⟩; have HF := Lib.hid (New.undrew hF); clear hF))
  go_wp2; go_ret
  exact ⟨rfl, HF0.out.trans HF.out⟩

set_option maxHeartbeats 1000000 in
theorem next_any (b a : Nat) (X : List Kn.Cr) (L : Int) (w : World) (h : ShAt w b X L) (hX : Kn.Ok X) (hl : X.length ≤ 16) (ha : Kn.isArc X a) :
    Calls Tryz.prog 39 #[.pointer (some ⟨b, 0, none⟩), .int .i64 a] w fun e w' => e = .returned (.int .i64 (Kn.nextA X a : Nat)) ∧ New w w' := by
  have hpl := hX.isPl_end (io := true) ha
  obtain ⟨pc, ps, hp⟩ : ∃ pc ps, Kn.endP X true a = (pc, ps) := ⟨_, _, rfl⟩
  rw [hp] at hpl; obtain ⟨h1, h2⟩ := hpl; simp only at h1 h2; obtain ⟨n, bx, ox, cc, bi, bo, r⟩ := h.read (by omega)
  have hal : a < 2 * n + 1 := by have := ha.2; unfold Kn.nArcs at this; have := r.len; omega
  obtain ⟨g1, g2⟩ := r.pi a hal; have hpi : Kn.inP X a = (pc, ps) := hp; rw [hpi] at g1 g2; simp only at g1 g2; have g0 := r.c2
  have i1 : (0 : Int) ≤ (a : Int) := by omega
  have i2 : (a : Int) < 2 * (n : Int) + 1 := by omega
  obtain ⟨t, ht⟩ : ∃ t, t = (ps + 2) % 4 := ⟨_, rfl⟩
  have j1 : (0 : Int) ≤ (ps : Int) := by omega
  have j2 : (ps : Int) < 4 := by omega
  have z1 : ((ps : Int) + 2) % 4 = (t : Int) := by omega
  have z2 : ((ps : Int) + 2).tmod 4 = (t : Int) := by rw [Int.tmod_eq_emod_of_nonneg (by omega)]; exact z1
  have ht4 : t < 4 := by omega
  have hres : Hid (Kn.nextA X a = Kn.arcN X (pc, t)) := Lib.hid (by unfold Kn.nextA; rw [hp, ht]); have HS := Lib.hid h; have HX := Lib.hid hX; have HA := Lib.hid h1; have HR := Lib.hid r; clear h hX hp hpi ht r ha h1
  go_enter Tryz.func39, Tryz.ntmps39
  go_wp2_with (go_at_call 66; refine (at_any b pc t X L _ (New.shAt ((Fr.refl _ _).alloc _) HS.out) HX.out hl HA.out ht4).mono ?_; rintro e w4 ⟨rfl, hF⟩; rw [← hres.out]; have HF := Lib.hid hF; clear hF)
  go_ret
  exact ⟨rfl, ((Fr.refl _ _).alloc _).trans HF.out⟩

theorem res2 {w : World} {B t : Nat} {x y : Value} (h : w.heap[B]? = some (.cells #[x, y] t (0, 0))) :
    w.cell? ⟨B, 0, none⟩ = some x ∧ w.frozen? ⟨B, 0, none⟩ = false ∧ (∀ Y, (w.setCell ⟨B, 0, none⟩ Y).cell? ⟨B, 1, none⟩ = some y) ∧ (∀ Y, (w.setCell ⟨B, 0, none⟩ Y).frozen? ⟨B, 1, none⟩ = false) ∧
    (∀ Y Z, ((w.setCell ⟨B, 0, none⟩ Y).setCell ⟨B, 1, none⟩ Z).cell? ⟨B, 0, none⟩ = some Y) ∧ (∀ Y Z, ((w.setCell ⟨B, 0, none⟩ Y).setCell ⟨B, 1, none⟩ Z).cell? ⟨B, 1, none⟩ = some Z) := by
  have hr : w.rowIs B t 2 (fun j => if j = 0 then x else y) := ⟨_, h, rfl, fun i hi => by
    match i, hi with
    | 0, _ => rfl
    | 1, _ => rfl⟩
  refine ⟨hr.cell (i := 0) (by omega), hr.frozen _, fun Y => ?_, fun Y => (hr.set 0 Y).frozen _, fun Y Z => ?_, fun Y Z => ?_⟩
  · have := (hr.set 0 Y).cell (i := 1) (by omega)
    simpa using this
  · have := ((hr.set 0 Y).set 1 Z).cell (i := 0) (by omega)
    simpa using this
  · have := ((hr.set 0 Y).set 1 Z).cell (i := 1) (by omega)
    simpa using this
def GavePl (p : Kn.Pl) (w : World) (e : Ending) (w' : World) : Prop := e = .returned (.agg #[.int .i64 (p.1 : Nat), .int .i64 (p.2 : Nat)]) ∧ New w w'
set_option maxHeartbeats 1000000 in
theorem head_any (b a : Nat) (back : Bool) (X : List Kn.Cr) (L : Int) (w : World) (h : ShAt w b X L) (hl : X.length ≤ 16) (ha : Kn.isArc X a) :
    Calls Tryz.prog 34 #[.pointer (some ⟨b, 0, none⟩), .agg #[.int .i64 a, .bool back]] w (GavePl (Kn.head X (a, back)) w) := by
  obtain ⟨pc, ps, hp⟩ : ∃ pc ps, Kn.head X (a, back) = (pc, ps) := ⟨_, _, rfl⟩
  rw [hp]
  have hn0 : 0 < X.length := by have := ha.1; have := ha.2; unfold Kn.nArcs at this; omega
  obtain ⟨n, bx, ox, cc, bi, bo, r⟩ := h.read hn0
  have hal : a < 2 * n + 1 := by have := ha.2; unfold Kn.nArcs at this; have := r.len; omega
  have i1 : (0 : Int) ≤ (a : Int) := by omega
  have i2 : (a : Int) < 2 * (n : Int) + 1 := by omega
  cases back with
  | true =>
    obtain ⟨g1, g2⟩ := r.po a hal; have hpi : Kn.outP X a = (pc, ps) := hp; rw [hpi] at g1 g2; simp only at g1 g2; have g0 := r.c3; have HR := Lib.hid r; clear r h hp hpi ha
    go_enter Tryz.func34, Tryz.ntmps34
    go_wp2
    obtain ⟨w1, HW1⟩ : ∃ w1, Hid (w1 = (w.alloc (.cells #[.int .i64 (a : Int), .bool true] 26)).alloc (.cells #[.int .i64 0, .int .i64 0] 82)) := ⟨_, Lib.hid rfl⟩
    rw [← HW1.out]
    have hF : New w w1 := by rw [HW1.out]; exact ((Fr.refl _ _).alloc _).alloc _
    have p0 := hF.cell g0 fun x => x
    have p1 := hF.cell g1 fun x => x
    have p2 := hF.cell g2 fun x => x
    have k1 : w1.cell? ⟨w.heap.size, 0, none⟩ = some (.int .i64 a) := by rw [HW1.out]; exact cell_alloc (cell_of_row _ _ 0 _ 26 (0, 0) (heap_alloc_new _ _)) _
    have hres : w1.heap[w.heap.size + 1]? = some (.cells #[.int .i64 0, .int .i64 0] 82 (0, 0)) := by
      have := heap_alloc_new (w.alloc (.cells #[.int .i64 (a : Int), .bool true] 26)) (.cells #[.int .i64 0, .int .i64 0] 82)
      rw [World.size_alloc, ← HW1.out] at this; exact this
    obtain ⟨m1, m2, m3, m4, m5, m6⟩ := res2 hres
    have HF2 : Hid (∀ Y Z, New w ((w1.setCell ⟨w.heap.size + 1, 0, none⟩ Y).setCell ⟨w.heap.size + 1, 1, none⟩ Z)) := Lib.hid fun Y Z => (hF.setCell (.inr (Nat.le_succ _)) Y).setCell (.inr (Nat.le_succ _)) Z
    have q0 := fun Y Z => (HF2.out Y Z).cell g0 fun x => x
    have q1 := fun Y Z => (HF2.out Y Z).cell g1 fun x => x
    have q2 := fun Y Z => (HF2.out Y Z).cell g2 fun x => x
    have HF := Lib.hid hF; clear hF hres g0 g1 g2
    go_region_held3 (fun w' => w'.cell? ⟨b, 3, none⟩ = some (.slice (some ⟨bo, 0, none⟩) (2 * n + 1) (2 * n + 1)) ∧ w'.cell? ⟨bo, a * 2, none⟩ = some (.int .i64 pc) ∧ w'.cell? ⟨bo, a * 2 + 1, none⟩ = some (.int .i64 ps) ∧ w'.cell? ⟨w.heap.size, 0, none⟩ = some (.int .i64 a)) (first | assumption | go_keep) (first | fail)
    go_wp2
    refine bodyPost_ret (v := .agg #[.int .i64 (pc : Int), .int .i64 (ps : Int)]) (by simp [results, Tryz.results34, go_sem, m5, m6]) rfl ⟨rfl, ?_⟩
    exact (HF2.out _ _).drew
  | false =>
    obtain ⟨g1, g2⟩ := r.pi a hal; have hpi : Kn.inP X a = (pc, ps) := hp; rw [hpi] at g1 g2; simp only at g1 g2; have g0 := r.c2; have HR := Lib.hid r; clear r h hp hpi ha
    go_enter Tryz.func34, Tryz.ntmps34
    go_wp2
    obtain ⟨w1, HW1⟩ : ∃ w1, Hid (w1 = (w.alloc (.cells #[.int .i64 (a : Int), .bool false] 26)).alloc (.cells #[.int .i64 0, .int .i64 0] 82)) := ⟨_, Lib.hid rfl⟩
    rw [← HW1.out]
    have hF : New w w1 := by rw [HW1.out]; exact ((Fr.refl _ _).alloc _).alloc _
    have p0 := hF.cell g0 fun x => x
    have p1 := hF.cell g1 fun x => x
    have p2 := hF.cell g2 fun x => x
    have k1 : w1.cell? ⟨w.heap.size, 0, none⟩ = some (.int .i64 a) := by rw [HW1.out]; exact cell_alloc (cell_of_row _ _ 0 _ 26 (0, 0) (heap_alloc_new _ _)) _
    have hres : w1.heap[w.heap.size + 1]? = some (.cells #[.int .i64 0, .int .i64 0] 82 (0, 0)) := by
      have := heap_alloc_new (w.alloc (.cells #[.int .i64 (a : Int), .bool false] 26)) (.cells #[.int .i64 0, .int .i64 0] 82)
      rw [World.size_alloc, ← HW1.out] at this; exact this
    obtain ⟨m1, m2, m3, m4, m5, m6⟩ := res2 hres
    have HF2 : Hid (∀ Y Z, New w ((w1.setCell ⟨w.heap.size + 1, 0, none⟩ Y).setCell ⟨w.heap.size + 1, 1, none⟩ Z)) := Lib.hid fun Y Z => (hF.setCell (.inr (Nat.le_succ _)) Y).setCell (.inr (Nat.le_succ _)) Z
    have q0 := fun Y Z => (HF2.out Y Z).cell g0 fun x => x
    have q1 := fun Y Z => (HF2.out Y Z).cell g1 fun x => x
    have q2 := fun Y Z => (HF2.out Y Z).cell g2 fun x => x
    have HF := Lib.hid hF; clear hF hres g0 g1 g2
    go_region_held3 (fun w' => w'.cell? ⟨b, 2, none⟩ = some (.slice (some ⟨bi, 0, none⟩) (2 * n + 1) (2 * n + 1)) ∧ w'.cell? ⟨bi, a * 2, none⟩ = some (.int .i64 pc) ∧ w'.cell? ⟨bi, a * 2 + 1, none⟩ = some (.int .i64 ps) ∧ w'.cell? ⟨w.heap.size, 0, none⟩ = some (.int .i64 a)) (first | assumption | go_keep) (first | fail)
    go_wp2
    refine bodyPost_ret (v := .agg #[.int .i64 (pc : Int), .int .i64 (ps : Int)]) (by simp [results, Tryz.results34, go_sem, m5, m6]) rfl ⟨rfl, ?_⟩
    exact (HF2.out _ _).drew
end Go.Proofs.YtgjmjbgicfkojaaGreat

/- Walks: Other, Left. -/
namespace Go.Proofs.YtgjmjbgicfkojaaGreat
open Go.RowKit

def CrCells (w : World) (b bx o n cc : Nat) (ad : Nat) (xa xb xc xd : Int) (xp : Bool) : Prop :=
  w.cell? ⟨b, 0, none⟩ = some (.slice (some ⟨bx, o, none⟩) n cc) ∧ w.cell? ⟨bx, ad, none⟩ = some (.int .i64 xa) ∧ w.cell? ⟨bx, ad + 1, none⟩ = some (.int .i64 xb) ∧ w.cell? ⟨bx, ad + 2, none⟩ = some (.int .i64 xc) ∧ w.cell? ⟨bx, ad + 3, none⟩ = some (.int .i64 xd) ∧ w.cell? ⟨bx, ad + 4, none⟩ = some (.bool xp)
theorem New.crCells {w w' : World} (h : New w w') {b bx o n cc ad : Nat} {xa xb xc xd : Int} {xp : Bool} (s : CrCells w b bx o n cc ad xa xb xc xd xp) : CrCells w' b bx o n cc ad xa xb xc xd xp :=
  ⟨h.cell s.1 fun x => x, h.cell s.2.1 fun x => x, h.cell s.2.2.1 fun x => x, h.cell s.2.2.2.1 fun x => x, h.cell s.2.2.2.2.1 fun x => x, h.cell s.2.2.2.2.2 fun x => x⟩
theorem blk_kept {w w' : World} (h : New w w') {B : Nat} {o : Obj} (hb : w.heap[B]? = some o) : w'.heap[B]? = some o := (h.block B (Array.getElem?_eq_some_iff.1 hb).1 fun x => x).trans hb

set_option maxHeartbeats 2000000 in
theorem other_any (b c s : Nat) (X : List Kn.Cr) (L : Int) (w : World) (h : ShAt w b X L) (hX : Kn.Ok X) (hl : X.length ≤ 16) (hc : c < X.length) (hs : s < 4) :
    Calls Tryz.prog 69 #[.pointer (some ⟨b, 0, none⟩), .agg #[.int .i64 c, .int .i64 s]] w (GavePl (Kn.other X (c, s)) w) := by
  obtain ⟨pc, ps, hp⟩ : ∃ pc ps, Kn.other X (c, s) = (pc, ps) := ⟨_, _, rfl⟩
  rw [hp]
  obtain ⟨a, hae⟩ : ∃ a, a = Kn.arcN X (c, s) := ⟨_, rfl⟩
  have harc := hX.isArc (X := X) (p := (c, s)) ⟨hc, hs⟩; rw [← hae] at harc; obtain ⟨n, bx, ox, cc, bi, bo, r⟩ := h.read (by omega)
  have hal : a < 2 * n + 1 := by have := harc.2; unfold Kn.nArcs at this; have := r.len; omega
  have a1 : (0 : Int) ≤ (a : Int) := by omega
  have a2 : (a : Int) < 2 * (n : Int) + 1 := by omega
  have i1 : (0 : Int) ≤ (c : Int) := by omega
  have i2 : (c : Int) < (n : Int) := by have := r.len; omega
  obtain ⟨x, hxk⟩ : ∃ x, x = Kn.cr X c := ⟨_, rfl⟩
  have hcr := r.cr c (by rw [r.len]; exact hc); rw [← hxk] at hcr
  have hcm : Kn.cm X (c, s) = comesB x.p s := by unfold Kn.cm; rw [← hxk]; rfl
  obtain ⟨xa, xb, xc, xd, xp⟩ := x; have HCC : Hid (CrCells w b bx ox n cc (ox + c * 5) xa xb xc xd xp) := Lib.hid ⟨r.c0, hcr.a, hcr.b, hcr.c, hcr.d, hcr.p⟩; simp only at hcm
  have hoth : Kn.endP X (!comesB xp s) a = (pc, ps) := by rw [← hcm, hae]; exact hp
  rcases Bool.eq_false_or_eq_true (comesB xp s) with hcb | hcb
  · rw [hcb] at hoth
    have hoe : Kn.outP X a = (pc, ps) := hoth; obtain ⟨g1, g2⟩ := r.po a hal; rw [hoe] at g1 g2; simp only at g1 g2; have g0 := r.c3; have HS := Lib.hid h; have HX := Lib.hid hX; have HA := Lib.hid hc; have HAE := Lib.hid hae; clear hoe hoth hcm hcr hxk r h hX hc hae harc hp
    go_enter Tryz.func69, Tryz.ntmps69
    go_wp2_with fail
    obtain ⟨w1, HW1⟩ : ∃ w1, Hid (w1 = (w.alloc (.cells #[.int .i64 (c : Int), .int .i64 (s : Int)] 82)).alloc (.cells #[.int .i64 0, .int .i64 0] 82)) := ⟨_, Lib.hid rfl⟩
    rw [← HW1.out]
    have hF : New w w1 := by rw [HW1.out]; exact ((Fr.refl _ _).alloc _).alloc _
    have k1 : w1.cell? ⟨w.heap.size, 0, none⟩ = some (.int .i64 c) := by rw [HW1.out]; exact cell_alloc (cell_of_row _ _ 0 _ 82 (0, 0) (heap_alloc_new _ _)) _
    have k2 : w1.cell? ⟨w.heap.size, 1, none⟩ = some (.int .i64 s) := by rw [HW1.out]; exact cell_alloc (cell_of_row _ _ 1 _ 82 (0, 0) (heap_alloc_new _ _)) _
    have HRES : Hid (w1.heap[w.heap.size + 1]? = some (.cells #[.int .i64 0, .int .i64 0] 82 (0, 0))) := Lib.hid (by
      have := heap_alloc_new (w.alloc (.cells #[.int .i64 (c : Int), .int .i64 (s : Int)] 82)) (.cells #[.int .i64 0, .int .i64 0] 82)
      rw [World.size_alloc, ← HW1.out] at this; exact this)
    have HF := Lib.hid hF; clear hF
    go_wp2_with (go_at_call 66; refine (at_any b c s X L _ (New.shAt HF.out HS.out) HX.out hl HA.out hs).mono ?_; rintro e w2 ⟨rfl, hG⟩; rw [← HAE.out]; have l1 := hG.cell k1 fun x => x; have l2 := hG.cell k2 fun x => x; obtain ⟨y0, y1, y2, y3, y4, y5⟩ := New.crCells (HF.out.trans hG) HCC.out; have HG := Lib.hid hG; clear hG)
    clear k1 k2
    go_cut [20] (fun s20 wx => s20 = .bool true ∧ Hid (New w1 wx))
    case first =>
      go_region_held3 (fun w' => w'.cell? ⟨b, 0, none⟩ = some (.slice (some ⟨bx, ox, none⟩) n cc) ∧ w'.cell? ⟨bx, ox + c * 5, none⟩ = some (.int .i64 xa) ∧ w'.cell? ⟨bx, ox + c * 5 + 1, none⟩ = some (.int .i64 xb) ∧ w'.cell? ⟨bx, ox + c * 5 + 2, none⟩ = some (.int .i64 xc) ∧ w'.cell? ⟨bx, ox + c * 5 + 3, none⟩ = some (.int .i64 xd) ∧ w'.cell? ⟨bx, ox + c * 5 + 4, none⟩ = some (.bool xp) ∧ w'.cell? ⟨w.heap.size, 0, none⟩ = some (.int .i64 c) ∧ w'.cell? ⟨w.heap.size, 1, none⟩ = some (.int .i64 s))
        (first | assumption | go_keep)
        (first
          | (go_at_call 68; refine (comes_any xa xb xc xd xp s _ hs).mono ?_; rintro e w4 ⟨rfl, hE⟩; rw [hcb]; have hq : w4.cell? ⟨b, 0, none⟩ = some (.slice (some ⟨bx, ox, none⟩) n cc) ∧ w4.cell? ⟨bx, ox + c * 5, none⟩ = some (.int .i64 xa) ∧ w4.cell? ⟨bx, ox + c * 5 + 1, none⟩ = some (.int .i64 xb) ∧ w4.cell? ⟨bx, ox + c * 5 + 2, none⟩ = some (.int .i64 xc) ∧ w4.cell? ⟨bx, ox + c * 5 + 3, none⟩ = some (.int .i64 xd) ∧ w4.cell? ⟨bx, ox + c * 5 + 4, none⟩ = some (.bool xp) ∧ w4.cell? ⟨w.heap.size, 0, none⟩ = some (.int .i64 c) ∧ w4.cell? ⟨w.heap.size, 1, none⟩ = some (.int .i64 s) := ⟨hE.cell y0 fun x => x, hE.cell y1 fun x => x, hE.cell y2 fun x => x, hE.cell y3 fun x => x, hE.cell y4 fun x => x, hE.cell y5 fun x => x, hE.cell l1 fun x => x, hE.cell l2 fun x => x⟩; have HE := Lib.hid (New.undrew hE); clear hE))
      go_wp2_with fail
      go_meet
      exact ⟨rfl, Lib.hid (HG.out.trans HE.out)⟩
    case rest =>
    obtain ⟨rfl, HW⟩ := hcut
    have q0 := (HF.out.trans HW.out).cell g0 fun x => x
    have q1 := (HF.out.trans HW.out).cell g1 fun x => x
    have q2 := (HF.out.trans HW.out).cell g2 fun x => x
    obtain ⟨m1, m2, m3, m4, m5, m6⟩ := res2 (blk_kept HW.out HRES.out); clear g0 g1 g2 l1 l2 y0 y1 y2 y3 y4 y5; go_wp2
    refine bodyPost_ret (v := .agg #[.int .i64 (pc : Int), .int .i64 (ps : Int)]) (by simp [results, Tryz.results69, go_sem, m5, m6]) rfl ⟨rfl, ?_⟩
    exact ((HF.out.trans HW.out).setCell (.inr (Nat.le_succ _)) _).setCell (.inr (Nat.le_succ _)) _
  · rw [hcb] at hoth
    have hoe : Kn.inP X a = (pc, ps) := hoth; obtain ⟨g1, g2⟩ := r.pi a hal; rw [hoe] at g1 g2; simp only at g1 g2; have g0 := r.c2; have HS := Lib.hid h; have HX := Lib.hid hX; have HA := Lib.hid hc; have HAE := Lib.hid hae; clear hoe hoth hcm hcr hxk r h hX hc hae harc hp
    go_enter Tryz.func69, Tryz.ntmps69
    go_wp2_with fail
    obtain ⟨w1, HW1⟩ : ∃ w1, Hid (w1 = (w.alloc (.cells #[.int .i64 (c : Int), .int .i64 (s : Int)] 82)).alloc (.cells #[.int .i64 0, .int .i64 0] 82)) := ⟨_, Lib.hid rfl⟩
    rw [← HW1.out]
    have hF : New w w1 := by rw [HW1.out]; exact ((Fr.refl _ _).alloc _).alloc _
    have k1 : w1.cell? ⟨w.heap.size, 0, none⟩ = some (.int .i64 c) := by rw [HW1.out]; exact cell_alloc (cell_of_row _ _ 0 _ 82 (0, 0) (heap_alloc_new _ _)) _
    have k2 : w1.cell? ⟨w.heap.size, 1, none⟩ = some (.int .i64 s) := by rw [HW1.out]; exact cell_alloc (cell_of_row _ _ 1 _ 82 (0, 0) (heap_alloc_new _ _)) _
    have HRES : Hid (w1.heap[w.heap.size + 1]? = some (.cells #[.int .i64 0, .int .i64 0] 82 (0, 0))) := Lib.hid (by
      have := heap_alloc_new (w.alloc (.cells #[.int .i64 (c : Int), .int .i64 (s : Int)] 82)) (.cells #[.int .i64 0, .int .i64 0] 82)
      rw [World.size_alloc, ← HW1.out] at this; exact this)
    have HF := Lib.hid hF; clear hF
    go_wp2_with (go_at_call 66; refine (at_any b c s X L _ (New.shAt HF.out HS.out) HX.out hl HA.out hs).mono ?_; rintro e w2 ⟨rfl, hG⟩; rw [← HAE.out]; have l1 := hG.cell k1 fun x => x; have l2 := hG.cell k2 fun x => x; obtain ⟨y0, y1, y2, y3, y4, y5⟩ := New.crCells (HF.out.trans hG) HCC.out; have HG := Lib.hid hG; clear hG)
    clear k1 k2
    go_cut [20] (fun s20 wx => s20 = .bool false ∧ Hid (New w1 wx))
    case first =>
      go_region_held3 (fun w' => w'.cell? ⟨b, 0, none⟩ = some (.slice (some ⟨bx, ox, none⟩) n cc) ∧ w'.cell? ⟨bx, ox + c * 5, none⟩ = some (.int .i64 xa) ∧ w'.cell? ⟨bx, ox + c * 5 + 1, none⟩ = some (.int .i64 xb) ∧ w'.cell? ⟨bx, ox + c * 5 + 2, none⟩ = some (.int .i64 xc) ∧ w'.cell? ⟨bx, ox + c * 5 + 3, none⟩ = some (.int .i64 xd) ∧ w'.cell? ⟨bx, ox + c * 5 + 4, none⟩ = some (.bool xp) ∧ w'.cell? ⟨w.heap.size, 0, none⟩ = some (.int .i64 c) ∧ w'.cell? ⟨w.heap.size, 1, none⟩ = some (.int .i64 s))
        (first | assumption | go_keep)
        (first
          | (go_at_call 68; refine (comes_any xa xb xc xd xp s _ hs).mono ?_; rintro e w4 ⟨rfl, hE⟩; rw [hcb]; have hq : w4.cell? ⟨b, 0, none⟩ = some (.slice (some ⟨bx, ox, none⟩) n cc) ∧ w4.cell? ⟨bx, ox + c * 5, none⟩ = some (.int .i64 xa) ∧ w4.cell? ⟨bx, ox + c * 5 + 1, none⟩ = some (.int .i64 xb) ∧ w4.cell? ⟨bx, ox + c * 5 + 2, none⟩ = some (.int .i64 xc) ∧ w4.cell? ⟨bx, ox + c * 5 + 3, none⟩ = some (.int .i64 xd) ∧ w4.cell? ⟨bx, ox + c * 5 + 4, none⟩ = some (.bool xp) ∧ w4.cell? ⟨w.heap.size, 0, none⟩ = some (.int .i64 c) ∧ w4.cell? ⟨w.heap.size, 1, none⟩ = some (.int .i64 s) := ⟨hE.cell y0 fun x => x, hE.cell y1 fun x => x, hE.cell y2 fun x => x, hE.cell y3 fun x => x, hE.cell y4 fun x => x, hE.cell y5 fun x => x, hE.cell l1 fun x => x, hE.cell l2 fun x => x⟩; have HE := Lib.hid (New.undrew hE); clear hE))
      go_wp2_with fail
      go_meet
      exact ⟨rfl, Lib.hid (HG.out.trans HE.out)⟩
    case rest =>
    obtain ⟨rfl, HW⟩ := hcut
    have q0 := (HF.out.trans HW.out).cell g0 fun x => x
    have q1 := (HF.out.trans HW.out).cell g1 fun x => x
    have q2 := (HF.out.trans HW.out).cell g2 fun x => x
    obtain ⟨m1, m2, m3, m4, m5, m6⟩ := res2 (blk_kept HW.out HRES.out); clear g0 g1 g2 l1 l2 y0 y1 y2 y3 y4 y5; go_wp2
    refine bodyPost_ret (v := .agg #[.int .i64 (pc : Int), .int .i64 (ps : Int)]) (by simp [results, Tryz.results69, go_sem, m5, m6]) rfl ⟨rfl, ?_⟩
    exact ((HF.out.trans HW.out).setCell (.inr (Nat.le_succ _)) _).setCell (.inr (Nat.le_succ _)) _

def GaveDt (d : Kn.Dt) (w : World) (e : Ending) (w' : World) : Prop := e = .returned (.agg #[.int .i64 (d.1 : Nat), .bool d.2]) ∧ New w w'
def LeftS (w' : World) (b bx ox n cc pc Q t : Nat) (xa xb xc xd : Int) (xp : Bool) : Prop := w'.cell? ⟨b, 0, none⟩ = some (.slice (some ⟨bx, ox, none⟩) n cc) ∧ w'.cell? ⟨bx, ox + pc * 5, none⟩ = some (.int .i64 xa) ∧ w'.cell? ⟨bx, ox + pc * 5 + 1, none⟩ = some (.int .i64 xb) ∧ w'.cell? ⟨bx, ox + pc * 5 + 2, none⟩ = some (.int .i64 xc) ∧ w'.cell? ⟨bx, ox + pc * 5 + 3, none⟩ = some (.int .i64 xd) ∧ w'.cell? ⟨bx, ox + pc * 5 + 4, none⟩ = some (.bool xp) ∧ w'.cell? ⟨Q, 0, none⟩ = some (.int .i64 pc) ∧ w'.cell? ⟨Q, 1, none⟩ = some (.int .i64 t)
theorem Fr.leftS {P : Nat → Prop} {w w' : World} (h : Fr P w w') {b bx ox n cc pc Q t : Nat} {xa xb xc xd : Int} {xp : Bool} (s : LeftS w b bx ox n cc pc Q t xa xb xc xd xp) (h1 : ¬ P b) (h2 : ¬ P bx) (h3 : ¬ P Q) : LeftS w' b bx ox n cc pc Q t xa xb xc xd xp :=
  ⟨h.cell s.1 h1, h.cell s.2.1 h2, h.cell s.2.2.1 h2, h.cell s.2.2.2.1 h2, h.cell s.2.2.2.2.1 h2, h.cell s.2.2.2.2.2.1 h2, h.cell s.2.2.2.2.2.2.1 h3, h.cell s.2.2.2.2.2.2.2 h3⟩
theorem LeftS.set {w : World} {b bx ox n cc pc Q t B : Nat} {xa xb xc xd : Int} {xp : Bool} (s : LeftS w b bx ox n cc pc Q t xa xb xc xd xp) (h1 : b ≠ B) (h2 : bx ≠ B) (h3 : Q ≠ B) (Y Z : Value) :
    LeftS ((w.setCell ⟨B, 0, none⟩ Y).setCell ⟨B, 1, none⟩ Z) b bx ox n cc pc Q t xa xb xc xd xp :=
  (((Fr.refl (fun x => x = B) w).setCell (.inl rfl) Y).setCell (.inl rfl) Z).leftS s h1 h2 h3

set_option maxHeartbeats 4000000 in
theorem left_any (b a : Nat) (back : Bool) (X : List Kn.Cr) (L : Int) (w : World) (h : ShAt w b X L) (hX : Kn.Ok X) (hl : X.length ≤ 16) (ha : Kn.isArc X a) :
    Calls Tryz.prog 37 #[.pointer (some ⟨b, 0, none⟩), .agg #[.int .i64 a, .bool back]] w (GaveDt (Kn.left X (a, back)) w) := by
  obtain ⟨pc, ps, hp⟩ : ∃ pc ps, Kn.head X (a, back) = (pc, ps) := ⟨_, _, rfl⟩
  have hpl := hX.isPl_head (d := (a, back)) ha; rw [hp] at hpl; obtain ⟨h1, h2⟩ := hpl; simp only at h1 h2; obtain ⟨n, bx, ox, cc, bi, bo, r⟩ := h.read (by omega)
  obtain ⟨t, ht⟩ : ∃ t, t = (ps + 3) % 4 := ⟨_, rfl⟩
  have ht4 : t < 4 := by omega
  have j1 : (0 : Int) ≤ (ps : Int) := by omega
  have j2 : (ps : Int) < 4 := by omega
  have z1 : ((ps : Int) + 4 - 1) % 4 = (t : Int) := by omega
  have z2 : ((ps : Int) + 4 - 1).tmod 4 = (t : Int) := by rw [Int.tmod_eq_emod_of_nonneg (by omega)]; exact z1
  have i1 : (0 : Int) ≤ (pc : Int) := by omega
  have i2 : (pc : Int) < (n : Int) := by have := r.len; omega
  obtain ⟨x, hxk⟩ : ∃ x, x = Kn.cr X pc := ⟨_, rfl⟩
  have hcr := r.cr pc (by rw [r.len]; exact h1); rw [← hxk] at hcr
  have hcm : Kn.cm X (pc, t) = comesB x.p t := by unfold Kn.cm; rw [← hxk]; rfl
  obtain ⟨xa, xb, xc, xd, xp⟩ := x; simp only at hcm; have HCC : Hid (CrCells w b bx ox n cc (ox + pc * 5) xa xb xc xd xp) := Lib.hid ⟨r.c0, hcr.a, hcr.b, hcr.c, hcr.d, hcr.p⟩
  obtain ⟨na, hna⟩ : ∃ na, na = Kn.arcN X (pc, t) := ⟨_, rfl⟩
  obtain ⟨nb, hnb⟩ : ∃ nb, nb = comesB xp t := ⟨_, rfl⟩
  have hres : Kn.left X (a, back) = (na, nb) := by unfold Kn.left; rw [hp, ← ht, hcm, ← hna, ← hnb]
  rw [hres]; have HNB := Lib.hid hnb; have HNA := Lib.hid hna; have HP := Lib.hid hp; have HS := Lib.hid h; have HX := Lib.hid hX; have HA := Lib.hid h1; have HAR := Lib.hid ha; have hbl : b < w.heap.size := World.block_lt_of_cell? w _ r.c0; have hbxl : bx < w.heap.size := World.block_lt_of_cell? w _ hcr.a; clear hp h hX h1 ha hna hnb hres hcm hxk hcr r ht
  go_enter Tryz.func37, Tryz.ntmps37
  go_wp2_with fail
  obtain ⟨w1, HW1⟩ : ∃ w1, Hid (w1 = (w.alloc (.cells #[.int .i64 (a : Int), .bool back] 26)).alloc (.cells #[.int .i64 0, .bool false] 26)) := ⟨_, Lib.hid rfl⟩
  rw [← HW1.out]
  have hF : New w w1 := by rw [HW1.out]; exact ((Fr.refl _ _).alloc _).alloc _
  have k1 : w1.cell? ⟨w.heap.size, 0, none⟩ = some (.int .i64 a) := by rw [HW1.out]; exact cell_alloc (cell_of_row _ _ 0 _ 26 (0, 0) (heap_alloc_new _ _)) _
  have k2 : w1.cell? ⟨w.heap.size, 1, none⟩ = some (.bool back) := by rw [HW1.out]; exact cell_alloc (cell_of_row _ _ 1 _ 26 (0, 0) (heap_alloc_new _ _)) _
  have HRES : Hid (w1.heap[w.heap.size + 1]? = some (.cells #[.int .i64 0, .bool false] 26 (0, 0))) := Lib.hid (by
    have := heap_alloc_new (w.alloc (.cells #[.int .i64 (a : Int), .bool back] 26)) (.cells #[.int .i64 0, .bool false] 26)
    rw [World.size_alloc, ← HW1.out] at this; exact this)
  have HSZ : w.heap.size + 2 ≤ w1.heap.size := by rw [HW1.out]; simp
  have HF := Lib.hid hF; clear hF
  go_wp2_with (go_at_call 34; refine (head_any b a back X L _ (New.shAt HF.out HS.out) hl HAR.out).mono ?_; rintro e w2 ⟨rfl, hG⟩; rw [HP.out]; have HG := Lib.hid hG; clear hG)
  have hF3 : New w2 ((w2.alloc (.cells #[.int .i64 (pc : Int), .int .i64 (ps : Int)] 82)).alloc (.cells #[.int .i64 (pc : Int), .int .i64 (t : Int)] 82)) := ((Fr.refl _ _).alloc _).alloc _
  obtain ⟨w3, HW3⟩ : ∃ w3, Hid (w3 = (w2.alloc (.cells #[.int .i64 (pc : Int), .int .i64 (ps : Int)] 82)).alloc (.cells #[.int .i64 (pc : Int), .int .i64 (t : Int)] 82)) := ⟨_, Lib.hid rfl⟩
  rw [← HW3.out] at hF3 ⊢
  have hq : w3.heap[w2.heap.size + 1]? = some (.cells #[.int .i64 (pc : Int), .int .i64 (t : Int)] 82 (0, 0)) := by
    have := heap_alloc_new (w2.alloc (.cells #[.int .i64 (pc : Int), .int .i64 (ps : Int)] 82)) (.cells #[.int .i64 (pc : Int), .int .i64 (t : Int)] 82)
    rw [World.size_alloc, ← HW3.out] at this; exact this
  have HF3 : Hid (New w w3) := Lib.hid ((HF.out.trans HG.out).trans hF3); have HR3 : Hid (w3.heap[w.heap.size + 1]? = some (.cells #[.int .i64 0, .bool false] 26 (0, 0))) := Lib.hid (blk_kept (HG.out.trans hF3) HRES.out); obtain ⟨y0, y1, y2, y3, y4, y5⟩ := New.crCells HF3.out HCC.out; have y6 := cell_of_row w3 _ 0 _ 82 (0, 0) hq; have y7 := cell_of_row w3 _ 1 _ 82 (0, 0) hq; have HLS : Hid (LeftS w3 b bx ox n cc pc (w2.heap.size + 1) t xa xb xc xd xp) := Lib.hid ⟨y0, y1, y2, y3, y4, y5, y6, y7⟩
  have nb1 : b ≠ w.heap.size + 1 := by omega
  have nb2 : bx ≠ w.heap.size + 1 := by omega
  have nb3 : w2.heap.size + 1 ≠ w.heap.size + 1 := by have := HG.out.size; omega
  change w3.cell? ⟨w2.heap.size + 1, 0, none⟩ = some (.int .i64 pc) at y6
  change w3.cell? ⟨w2.heap.size + 1, 1, none⟩ = some (.int .i64 t) at y7
  clear hF3 hq k1 k2
  go_region_held3 (fun w' => w'.cell? ⟨b, 0, none⟩ = some (.slice (some ⟨bx, ox, none⟩) n cc) ∧ w'.cell? ⟨bx, ox + pc * 5, none⟩ = some (.int .i64 xa) ∧ w'.cell? ⟨bx, ox + pc * 5 + 1, none⟩ = some (.int .i64 xb) ∧ w'.cell? ⟨bx, ox + pc * 5 + 2, none⟩ = some (.int .i64 xc) ∧ w'.cell? ⟨bx, ox + pc * 5 + 3, none⟩ = some (.int .i64 xd) ∧ w'.cell? ⟨bx, ox + pc * 5 + 4, none⟩ = some (.bool xp) ∧ w'.cell? ⟨w2.heap.size + 1, 0, none⟩ = some (.int .i64 pc) ∧ w'.cell? ⟨w2.heap.size + 1, 1, none⟩ = some (.int .i64 t))
    (first | assumption | exact hs | exact hz _ _ | go_keep)
    (first
      | (go_at_call 66; refine (at_any b pc t X L _ (New.shAt (by first | exact (HF3.out.trans HE.out).drew | exact HF3.out.trans HE.out | exact HF3.out.drew) HS.out) HX.out hl HA.out ht4).mono ?_; rintro e w4 ⟨rfl, hE⟩; rw [← HNA.out]; have hE' : New w3 w4 := Fr.trans (by first | exact HE.out.drew | exact HE.out | exact (Fr.refl _ _).drew | exact Fr.refl _ _) hE; have hs := hE'.leftS HLS.out (fun x => x) (fun x => x) (fun x => x); have hz := fun Y Z => hs.set nb1 nb2 nb3 Y Z; have hr := res2 (blk_kept hE' HR3.out); have HE := Lib.hid hE'; clear hE hE'; unfold LeftS at hs hz; obtain ⟨m1, m2, m3, m4, m5, m6⟩ := hr)
      | (go_at_call 68; refine (comes_any xa xb xc xd xp t _ ht4).mono ?_; rintro e w5 ⟨rfl, hE⟩; rw [← HNB.out]; have hE' : New w3 w5 := Fr.trans (by first | exact HE.out.drew | exact HE.out | exact (Fr.refl _ _).drew | exact Fr.refl _ _) hE; have hs := hE'.leftS HLS.out (fun x => x) (fun x => x) (fun x => x); have hz := fun Y Z => hs.set nb1 nb2 nb3 Y Z; have hr := res2 (blk_kept hE' HR3.out); have HE := Lib.hid hE'; clear hE hE'; unfold LeftS at hs hz; obtain ⟨m1, m2, m3, m4, m5, m6⟩ := hr))
  all_goals
    go_wp2
    refine bodyPost_ret (v := .agg #[.int .i64 (na : Int), .bool nb]) (by simp [results, Tryz.results37, go_sem, m5, m6]) rfl ⟨rfl, ?_⟩
    exact (by first | exact (((HF3.out.trans HE.out).setCell (.inr (Nat.le_succ _)) _).setCell (.inr (Nat.le_succ _)) _).drew | exact ((HF3.out.trans HE.out).setCell (.inr (Nat.le_succ _)) _).setCell (.inr (Nat.le_succ _)) _)
end Go.Proofs.YtgjmjbgicfkojaaGreat
