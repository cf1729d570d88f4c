/- Walks: Other, Left. -/
import Derived.Test.YtlicglicfijelaaW6
namespace Go.Proofs.Ytlicglicfijelaa
open Go.RowKit

/- the cells that a crossing and its shape give, in one word -/
def CrCells (w : World) (b bx o n cc : Nat) (ad : Nat) (xa xb xc xd : Int) (xp : Bool) : Prop :=
  w.cell? ⟨b, 0, none⟩ = some (.slice (some ⟨bx, o, none⟩) n cc) ∧ w.cell? ⟨bx, ad, none⟩ = some (.int .i64 xa) ∧ w.cell? ⟨bx, ad + 1, none⟩ = some (.int .i64 xb) ∧ w.cell? ⟨bx, ad + 2, none⟩ = some (.int .i64 xc) ∧ w.cell? ⟨bx, ad + 3, none⟩ = some (.int .i64 xd) ∧ w.cell? ⟨bx, ad + 4, none⟩ = some (.bool xp)
theorem New.crCells {w w' : World} (h : New w w') {b bx o n cc ad : Nat} {xa xb xc xd : Int} {xp : Bool} (s : CrCells w b bx o n cc ad xa xb xc xd xp) : CrCells w' b bx o n cc ad xa xb xc xd xp :=
  ⟨h.cell s.1 fun x => x, h.cell s.2.1 fun x => x, h.cell s.2.2.1 fun x => x, h.cell s.2.2.2.1 fun x => x, h.cell s.2.2.2.2.1 fun x => x, h.cell s.2.2.2.2.2 fun x => x⟩
theorem blk_kept {w w' : World} (h : New w w') {B : Nat} {o : Obj} (hb : w.heap[B]? = some o) : w'.heap[B]? = some o := (h.block B (Array.getElem?_eq_some_iff.1 hb).1 fun x => x).trans hb

set_option maxHeartbeats 2000000 in
theorem other_any (b c s : Nat) (X : List Kn.Cr) (L : Int) (w : World) (h : ShAt w b X L) (hX : Kn.Ok X) (hl : X.length ≤ 16) (hc : c < X.length) (hs : s < 4) :
    Calls Try.prog 64 #[.pointer (some ⟨b, 0, none⟩), .agg #[.int .i64 c, .int .i64 s]] w (GavePl (Kn.other X (c, s)) w) := by
  obtain ⟨pc, ps, hp⟩ : ∃ pc ps, Kn.other X (c, s) = (pc, ps) := ⟨_, _, rfl⟩
  rw [hp]
  obtain ⟨a, hae⟩ : ∃ a, a = Kn.arcN X (c, s) := ⟨_, rfl⟩
  have harc := hX.isArc (X := X) (p := (c, s)) ⟨hc, hs⟩
  rw [← hae] at harc
  obtain ⟨n, bx, ox, cc, bi, bo, r⟩ := h.read (by omega)
  have hal : a < 2 * n + 1 := by have := harc.2; unfold Kn.nArcs at this; have := r.len; omega
  have a1 : (0 : Int) ≤ (a : Int) := by omega
  have a2 : (a : Int) < 2 * (n : Int) + 1 := by omega
  have i1 : (0 : Int) ≤ (c : Int) := by omega
  have i2 : (c : Int) < (n : Int) := by have := r.len; omega
  obtain ⟨x, hxk⟩ : ∃ x, x = Kn.cr X c := ⟨_, rfl⟩
  have hcr := r.cr c (by rw [r.len]; exact hc)
  rw [← hxk] at hcr
  have hcm : Kn.cm X (c, s) = comesB x.p s := by unfold Kn.cm; rw [← hxk]; rfl
  obtain ⟨xa, xb, xc, xd, xp⟩ := x
  have HCC : Hid (CrCells w b bx ox n cc (ox + c * 5) xa xb xc xd xp) := Lib.hid ⟨r.c0, hcr.a, hcr.b, hcr.c, hcr.d, hcr.p⟩
  simp only at hcm
  have hoth : Kn.endP X (!comesB xp s) a = (pc, ps) := by rw [← hcm, hae]; exact hp
  rcases Bool.eq_false_or_eq_true (comesB xp s) with hcb | hcb
  · rw [hcb] at hoth
    have hoe : Kn.outP X a = (pc, ps) := hoth
    obtain ⟨g1, g2⟩ := r.po a hal
    rw [hoe] at g1 g2
    simp only at g1 g2
    have g0 := r.c3
    have HS := Lib.hid h
    have HX := Lib.hid hX
    have HA := Lib.hid hc
    have HAE := Lib.hid hae
    clear hoe hoth hcm hcr hxk r h hX hc hae harc hp
    go_enter Try.func64, Try.ntmps64
    go_wp2_with fail
    obtain ⟨w1, HW1⟩ : ∃ w1, Hid (w1 = (w.alloc (.cells #[.int .i64 (c : Int), .int .i64 (s : Int)] 66)).alloc (.cells #[.int .i64 0, .int .i64 0] 66)) := ⟨_, Lib.hid rfl⟩
    rw [← HW1.out]
    have hF : New w w1 := by rw [HW1.out]; exact ((Fr.refl _ _).alloc _).alloc _
    have k1 : w1.cell? ⟨w.heap.size, 0, none⟩ = some (.int .i64 c) := by rw [HW1.out]; exact cell_alloc (cell_of_row _ _ 0 _ 66 (0, 0) (heap_alloc_new _ _)) _
    have k2 : w1.cell? ⟨w.heap.size, 1, none⟩ = some (.int .i64 s) := by rw [HW1.out]; exact cell_alloc (cell_of_row _ _ 1 _ 66 (0, 0) (heap_alloc_new _ _)) _
    have HRES : Hid (w1.heap[w.heap.size + 1]? = some (.cells #[.int .i64 0, .int .i64 0] 66 (0, 0))) := Lib.hid (by
      have := heap_alloc_new (w.alloc (.cells #[.int .i64 (c : Int), .int .i64 (s : Int)] 66)) (.cells #[.int .i64 0, .int .i64 0] 66)
      rw [World.size_alloc, ← HW1.out] at this; exact this)
    have HF := Lib.hid hF
    clear hF
    go_wp2_with (go_at_call 68; refine (at_any b c s X L _ (New.shAt HF.out HS.out) HX.out hl HA.out hs).mono ?_; rintro e w2 ⟨rfl, hG⟩; rw [← HAE.out]; have l1 := hG.cell k1 fun x => x; have l2 := hG.cell k2 fun x => x; obtain ⟨y0, y1, y2, y3, y4, y5⟩ := New.crCells (HF.out.trans hG) HCC.out; have HG := Lib.hid hG; clear hG)
    clear k1 k2
    go_cut [20] (fun s20 wx => s20 = .bool true ∧ Hid (New w1 wx))
    case first =>
      go_region_held3 (fun w' => w'.cell? ⟨b, 0, none⟩ = some (.slice (some ⟨bx, ox, none⟩) n cc) ∧ w'.cell? ⟨bx, ox + c * 5, none⟩ = some (.int .i64 xa) ∧ w'.cell? ⟨bx, ox + c * 5 + 1, none⟩ = some (.int .i64 xb) ∧ w'.cell? ⟨bx, ox + c * 5 + 2, none⟩ = some (.int .i64 xc) ∧ w'.cell? ⟨bx, ox + c * 5 + 3, none⟩ = some (.int .i64 xd) ∧ w'.cell? ⟨bx, ox + c * 5 + 4, none⟩ = some (.bool xp) ∧ w'.cell? ⟨w.heap.size, 0, none⟩ = some (.int .i64 c) ∧ w'.cell? ⟨w.heap.size, 1, none⟩ = some (.int .i64 s))
        (first | assumption | go_keep)
        (first
          | (go_at_call 38; refine (comes_any xa xb xc xd xp s _ hs).mono ?_; rintro e w4 ⟨rfl, hE⟩; rw [hcb]; have hq : w4.cell? ⟨b, 0, none⟩ = some (.slice (some ⟨bx, ox, none⟩) n cc) ∧ w4.cell? ⟨bx, ox + c * 5, none⟩ = some (.int .i64 xa) ∧ w4.cell? ⟨bx, ox + c * 5 + 1, none⟩ = some (.int .i64 xb) ∧ w4.cell? ⟨bx, ox + c * 5 + 2, none⟩ = some (.int .i64 xc) ∧ w4.cell? ⟨bx, ox + c * 5 + 3, none⟩ = some (.int .i64 xd) ∧ w4.cell? ⟨bx, ox + c * 5 + 4, none⟩ = some (.bool xp) ∧ w4.cell? ⟨w.heap.size, 0, none⟩ = some (.int .i64 c) ∧ w4.cell? ⟨w.heap.size, 1, none⟩ = some (.int .i64 s) := ⟨hE.cell y0 fun x => x, hE.cell y1 fun x => x, hE.cell y2 fun x => x, hE.cell y3 fun x => x, hE.cell y4 fun x => x, hE.cell y5 fun x => x, hE.cell l1 fun x => x, hE.cell l2 fun x => x⟩; have HE := Lib.hid (New.undrew hE); clear hE))
      go_wp2_with fail
      go_meet
      exact ⟨rfl, Lib.hid (HG.out.trans HE.out)⟩
    case rest =>
    obtain ⟨rfl, HW⟩ := hcut
    have q0 := (HF.out.trans HW.out).cell g0 fun x => x
    have q1 := (HF.out.trans HW.out).cell g1 fun x => x
    have q2 := (HF.out.trans HW.out).cell g2 fun x => x
    obtain ⟨m1, m2, m3, m4, m5, m6⟩ := res2 (blk_kept HW.out HRES.out)
    clear g0 g1 g2 l1 l2 y0 y1 y2 y3 y4 y5
    go_wp2
    refine bodyPost_ret (v := .agg #[.int .i64 (pc : Int), .int .i64 (ps : Int)]) (by simp [results, Try.results64, go_sem, m5, m6]) rfl ⟨rfl, ?_⟩
    exact ((HF.out.trans HW.out).setCell (.inr (Nat.le_succ _)) _).setCell (.inr (Nat.le_succ _)) _
  · rw [hcb] at hoth
    have hoe : Kn.inP X a = (pc, ps) := hoth
    obtain ⟨g1, g2⟩ := r.pi a hal
    rw [hoe] at g1 g2
    simp only at g1 g2
    have g0 := r.c2
    have HS := Lib.hid h
    have HX := Lib.hid hX
    have HA := Lib.hid hc
    have HAE := Lib.hid hae
    clear hoe hoth hcm hcr hxk r h hX hc hae harc hp
    go_enter Try.func64, Try.ntmps64
    go_wp2_with fail
    obtain ⟨w1, HW1⟩ : ∃ w1, Hid (w1 = (w.alloc (.cells #[.int .i64 (c : Int), .int .i64 (s : Int)] 66)).alloc (.cells #[.int .i64 0, .int .i64 0] 66)) := ⟨_, Lib.hid rfl⟩
    rw [← HW1.out]
    have hF : New w w1 := by rw [HW1.out]; exact ((Fr.refl _ _).alloc _).alloc _
    have k1 : w1.cell? ⟨w.heap.size, 0, none⟩ = some (.int .i64 c) := by rw [HW1.out]; exact cell_alloc (cell_of_row _ _ 0 _ 66 (0, 0) (heap_alloc_new _ _)) _
    have k2 : w1.cell? ⟨w.heap.size, 1, none⟩ = some (.int .i64 s) := by rw [HW1.out]; exact cell_alloc (cell_of_row _ _ 1 _ 66 (0, 0) (heap_alloc_new _ _)) _
    have HRES : Hid (w1.heap[w.heap.size + 1]? = some (.cells #[.int .i64 0, .int .i64 0] 66 (0, 0))) := Lib.hid (by
      have := heap_alloc_new (w.alloc (.cells #[.int .i64 (c : Int), .int .i64 (s : Int)] 66)) (.cells #[.int .i64 0, .int .i64 0] 66)
      rw [World.size_alloc, ← HW1.out] at this; exact this)
    have HF := Lib.hid hF
    clear hF
    go_wp2_with (go_at_call 68; refine (at_any b c s X L _ (New.shAt HF.out HS.out) HX.out hl HA.out hs).mono ?_; rintro e w2 ⟨rfl, hG⟩; rw [← HAE.out]; have l1 := hG.cell k1 fun x => x; have l2 := hG.cell k2 fun x => x; obtain ⟨y0, y1, y2, y3, y4, y5⟩ := New.crCells (HF.out.trans hG) HCC.out; have HG := Lib.hid hG; clear hG)
    clear k1 k2
    go_cut [20] (fun s20 wx => s20 = .bool false ∧ Hid (New w1 wx))
    case first =>
      go_region_held3 (fun w' => w'.cell? ⟨b, 0, none⟩ = some (.slice (some ⟨bx, ox, none⟩) n cc) ∧ w'.cell? ⟨bx, ox + c * 5, none⟩ = some (.int .i64 xa) ∧ w'.cell? ⟨bx, ox + c * 5 + 1, none⟩ = some (.int .i64 xb) ∧ w'.cell? ⟨bx, ox + c * 5 + 2, none⟩ = some (.int .i64 xc) ∧ w'.cell? ⟨bx, ox + c * 5 + 3, none⟩ = some (.int .i64 xd) ∧ w'.cell? ⟨bx, ox + c * 5 + 4, none⟩ = some (.bool xp) ∧ w'.cell? ⟨w.heap.size, 0, none⟩ = some (.int .i64 c) ∧ w'.cell? ⟨w.heap.size, 1, none⟩ = some (.int .i64 s))
        (first | assumption | go_keep)
        (first
          | (go_at_call 38; refine (comes_any xa xb xc xd xp s _ hs).mono ?_; rintro e w4 ⟨rfl, hE⟩; rw [hcb]; have hq : w4.cell? ⟨b, 0, none⟩ = some (.slice (some ⟨bx, ox, none⟩) n cc) ∧ w4.cell? ⟨bx, ox + c * 5, none⟩ = some (.int .i64 xa) ∧ w4.cell? ⟨bx, ox + c * 5 + 1, none⟩ = some (.int .i64 xb) ∧ w4.cell? ⟨bx, ox + c * 5 + 2, none⟩ = some (.int .i64 xc) ∧ w4.cell? ⟨bx, ox + c * 5 + 3, none⟩ = some (.int .i64 xd) ∧ w4.cell? ⟨bx, ox + c * 5 + 4, none⟩ = some (.bool xp) ∧ w4.cell? ⟨w.heap.size, 0, none⟩ = some (.int .i64 c) ∧ w4.cell? ⟨w.heap.size, 1, none⟩ = some (.int .i64 s) := ⟨hE.cell y0 fun x => x, hE.cell y1 fun x => x, hE.cell y2 fun x => x, hE.cell y3 fun x => x, hE.cell y4 fun x => x, hE.cell y5 fun x => x, hE.cell l1 fun x => x, hE.cell l2 fun x => x⟩; have HE := Lib.hid (New.undrew hE); clear hE))
      go_wp2_with fail
      go_meet
      exact ⟨rfl, Lib.hid (HG.out.trans HE.out)⟩
    case rest =>
    obtain ⟨rfl, HW⟩ := hcut
    have q0 := (HF.out.trans HW.out).cell g0 fun x => x
    have q1 := (HF.out.trans HW.out).cell g1 fun x => x
    have q2 := (HF.out.trans HW.out).cell g2 fun x => x
    obtain ⟨m1, m2, m3, m4, m5, m6⟩ := res2 (blk_kept HW.out HRES.out)
    clear g0 g1 g2 l1 l2 y0 y1 y2 y3 y4 y5
    go_wp2
    refine bodyPost_ret (v := .agg #[.int .i64 (pc : Int), .int .i64 (ps : Int)]) (by simp [results, Try.results64, go_sem, m5, m6]) rfl ⟨rfl, ?_⟩
    exact ((HF.out.trans HW.out).setCell (.inr (Nat.le_succ _)) _).setCell (.inr (Nat.le_succ _)) _

/- a dart handed back by value -/
def GaveDt (d : Kn.Dt) (w : World) (e : Ending) (w' : World) : Prop := e = .returned (.agg #[.int .i64 (d.1 : Nat), .bool d.2]) ∧ New w w'
def LeftS (w' : World) (b bx ox n cc pc Q t : Nat) (xa xb xc xd : Int) (xp : Bool) : Prop := w'.cell? ⟨b, 0, none⟩ = some (.slice (some ⟨bx, ox, none⟩) n cc) ∧ w'.cell? ⟨bx, ox + pc * 5, none⟩ = some (.int .i64 xa) ∧ w'.cell? ⟨bx, ox + pc * 5 + 1, none⟩ = some (.int .i64 xb) ∧ w'.cell? ⟨bx, ox + pc * 5 + 2, none⟩ = some (.int .i64 xc) ∧ w'.cell? ⟨bx, ox + pc * 5 + 3, none⟩ = some (.int .i64 xd) ∧ w'.cell? ⟨bx, ox + pc * 5 + 4, none⟩ = some (.bool xp) ∧ w'.cell? ⟨Q, 0, none⟩ = some (.int .i64 pc) ∧ w'.cell? ⟨Q, 1, none⟩ = some (.int .i64 t)
theorem Fr.leftS {P : Nat → Prop} {w w' : World} (h : Fr P w w') {b bx ox n cc pc Q t : Nat} {xa xb xc xd : Int} {xp : Bool} (s : LeftS w b bx ox n cc pc Q t xa xb xc xd xp) (h1 : ¬ P b) (h2 : ¬ P bx) (h3 : ¬ P Q) : LeftS w' b bx ox n cc pc Q t xa xb xc xd xp :=
  ⟨h.cell s.1 h1, h.cell s.2.1 h2, h.cell s.2.2.1 h2, h.cell s.2.2.2.1 h2, h.cell s.2.2.2.2.1 h2, h.cell s.2.2.2.2.2.1 h2, h.cell s.2.2.2.2.2.2.1 h3, h.cell s.2.2.2.2.2.2.2 h3⟩
theorem LeftS.set {w : World} {b bx ox n cc pc Q t B : Nat} {xa xb xc xd : Int} {xp : Bool} (s : LeftS w b bx ox n cc pc Q t xa xb xc xd xp) (h1 : b ≠ B) (h2 : bx ≠ B) (h3 : Q ≠ B) (Y Z : Value) :
    LeftS ((w.setCell ⟨B, 0, none⟩ Y).setCell ⟨B, 1, none⟩ Z) b bx ox n cc pc Q t xa xb xc xd xp :=
  (((Fr.refl (fun x => x = B) w).setCell (.inl rfl) Y).setCell (.inl rfl) Z).leftS s h1 h2 h3

set_option maxHeartbeats 4000000 in
theorem left_any (b a : Nat) (back : Bool) (X : List Kn.Cr) (L : Int) (w : World) (h : ShAt w b X L) (hX : Kn.Ok X) (hl : X.length ≤ 16) (ha : Kn.isArc X a) :
    Calls Try.prog 67 #[.pointer (some ⟨b, 0, none⟩), .agg #[.int .i64 a, .bool back]] w (GaveDt (Kn.left X (a, back)) w) := by
  obtain ⟨pc, ps, hp⟩ : ∃ pc ps, Kn.head X (a, back) = (pc, ps) := ⟨_, _, rfl⟩
  have hpl := hX.isPl_head (d := (a, back)) ha
  rw [hp] at hpl
  obtain ⟨h1, h2⟩ := hpl
  simp only at h1 h2
  obtain ⟨n, bx, ox, cc, bi, bo, r⟩ := h.read (by omega)
  obtain ⟨t, ht⟩ : ∃ t, t = (ps + 3) % 4 := ⟨_, rfl⟩
  have ht4 : t < 4 := by omega
  have j1 : (0 : Int) ≤ (ps : Int) := by omega
  have j2 : (ps : Int) < 4 := by omega
  have z1 : ((ps : Int) + 4 - 1) % 4 = (t : Int) := by omega
  have z2 : ((ps : Int) + 4 - 1).tmod 4 = (t : Int) := by rw [Int.tmod_eq_emod_of_nonneg (by omega)]; exact z1
  have i1 : (0 : Int) ≤ (pc : Int) := by omega
  have i2 : (pc : Int) < (n : Int) := by have := r.len; omega
  obtain ⟨x, hxk⟩ : ∃ x, x = Kn.cr X pc := ⟨_, rfl⟩
  have hcr := r.cr pc (by rw [r.len]; exact h1)
  rw [← hxk] at hcr
  have hcm : Kn.cm X (pc, t) = comesB x.p t := by unfold Kn.cm; rw [← hxk]; rfl
  obtain ⟨xa, xb, xc, xd, xp⟩ := x
  simp only at hcm
  have HCC : Hid (CrCells w b bx ox n cc (ox + pc * 5) xa xb xc xd xp) := Lib.hid ⟨r.c0, hcr.a, hcr.b, hcr.c, hcr.d, hcr.p⟩
  obtain ⟨na, hna⟩ : ∃ na, na = Kn.arcN X (pc, t) := ⟨_, rfl⟩
  obtain ⟨nb, hnb⟩ : ∃ nb, nb = comesB xp t := ⟨_, rfl⟩
  have hres : Kn.left X (a, back) = (na, nb) := by unfold Kn.left; rw [hp, ← ht, hcm, ← hna, ← hnb]
  rw [hres]
  have HNB := Lib.hid hnb
  have HNA := Lib.hid hna
  have HP := Lib.hid hp
  have HS := Lib.hid h
  have HX := Lib.hid hX
  have HA := Lib.hid h1
  have HAR := Lib.hid ha
  have hbl : b < w.heap.size := World.block_lt_of_cell? w _ r.c0
  have hbxl : bx < w.heap.size := World.block_lt_of_cell? w _ hcr.a
  clear hp h hX h1 ha hna hnb hres hcm hxk hcr r ht
  go_enter Try.func67, Try.ntmps67
  go_wp2_with fail
  obtain ⟨w1, HW1⟩ : ∃ w1, Hid (w1 = (w.alloc (.cells #[.int .i64 (a : Int), .bool back] 107)).alloc (.cells #[.int .i64 0, .bool false] 107)) := ⟨_, Lib.hid rfl⟩
  rw [← HW1.out]
  have hF : New w w1 := by rw [HW1.out]; exact ((Fr.refl _ _).alloc _).alloc _
  have k1 : w1.cell? ⟨w.heap.size, 0, none⟩ = some (.int .i64 a) := by rw [HW1.out]; exact cell_alloc (cell_of_row _ _ 0 _ 107 (0, 0) (heap_alloc_new _ _)) _
  have k2 : w1.cell? ⟨w.heap.size, 1, none⟩ = some (.bool back) := by rw [HW1.out]; exact cell_alloc (cell_of_row _ _ 1 _ 107 (0, 0) (heap_alloc_new _ _)) _
  have HRES : Hid (w1.heap[w.heap.size + 1]? = some (.cells #[.int .i64 0, .bool false] 107 (0, 0))) := Lib.hid (by
    have := heap_alloc_new (w.alloc (.cells #[.int .i64 (a : Int), .bool back] 107)) (.cells #[.int .i64 0, .bool false] 107)
    rw [World.size_alloc, ← HW1.out] at this; exact this)
  have HSZ : w.heap.size + 2 ≤ w1.heap.size := by rw [HW1.out]; simp
  have HF := Lib.hid hF
  clear hF
  go_wp2_with (go_at_call 50; refine (head_any b a back X L _ (New.shAt HF.out HS.out) hl HAR.out).mono ?_; rintro e w2 ⟨rfl, hG⟩; rw [HP.out]; have HG := Lib.hid hG; clear hG)
  have hF3 : New w2 ((w2.alloc (.cells #[.int .i64 (pc : Int), .int .i64 (ps : Int)] 66)).alloc (.cells #[.int .i64 (pc : Int), .int .i64 (t : Int)] 66)) := ((Fr.refl _ _).alloc _).alloc _
  obtain ⟨w3, HW3⟩ : ∃ w3, Hid (w3 = (w2.alloc (.cells #[.int .i64 (pc : Int), .int .i64 (ps : Int)] 66)).alloc (.cells #[.int .i64 (pc : Int), .int .i64 (t : Int)] 66)) := ⟨_, Lib.hid rfl⟩
  rw [← HW3.out] at hF3 ⊢
  have hq : w3.heap[w2.heap.size + 1]? = some (.cells #[.int .i64 (pc : Int), .int .i64 (t : Int)] 66 (0, 0)) := by
    have := heap_alloc_new (w2.alloc (.cells #[.int .i64 (pc : Int), .int .i64 (ps : Int)] 66)) (.cells #[.int .i64 (pc : Int), .int .i64 (t : Int)] 66)
    rw [World.size_alloc, ← HW3.out] at this; exact this
  have HF3 : Hid (New w w3) := Lib.hid ((HF.out.trans HG.out).trans hF3)
  have HR3 : Hid (w3.heap[w.heap.size + 1]? = some (.cells #[.int .i64 0, .bool false] 107 (0, 0))) := Lib.hid (blk_kept (HG.out.trans hF3) HRES.out)
  obtain ⟨y0, y1, y2, y3, y4, y5⟩ := New.crCells HF3.out HCC.out
  have y6 := cell_of_row w3 _ 0 _ 66 (0, 0) hq
  have y7 := cell_of_row w3 _ 1 _ 66 (0, 0) hq
  have HLS : Hid (LeftS w3 b bx ox n cc pc (w2.heap.size + 1) t xa xb xc xd xp) := Lib.hid ⟨y0, y1, y2, y3, y4, y5, y6, y7⟩
  have nb1 : b ≠ w.heap.size + 1 := by omega
  have nb2 : bx ≠ w.heap.size + 1 := by omega
  have nb3 : w2.heap.size + 1 ≠ w.heap.size + 1 := by have := HG.out.size; omega
  change w3.cell? ⟨w2.heap.size + 1, 0, none⟩ = some (.int .i64 pc) at y6
  change w3.cell? ⟨w2.heap.size + 1, 1, none⟩ = some (.int .i64 t) at y7
  clear hF3 hq k1 k2
  go_region_held3 (fun w' => w'.cell? ⟨b, 0, none⟩ = some (.slice (some ⟨bx, ox, none⟩) n cc) ∧ w'.cell? ⟨bx, ox + pc * 5, none⟩ = some (.int .i64 xa) ∧ w'.cell? ⟨bx, ox + pc * 5 + 1, none⟩ = some (.int .i64 xb) ∧ w'.cell? ⟨bx, ox + pc * 5 + 2, none⟩ = some (.int .i64 xc) ∧ w'.cell? ⟨bx, ox + pc * 5 + 3, none⟩ = some (.int .i64 xd) ∧ w'.cell? ⟨bx, ox + pc * 5 + 4, none⟩ = some (.bool xp) ∧ w'.cell? ⟨w2.heap.size + 1, 0, none⟩ = some (.int .i64 pc) ∧ w'.cell? ⟨w2.heap.size + 1, 1, none⟩ = some (.int .i64 t))
    (first | assumption | exact hs | exact hz _ _ | go_keep)
    (first
      | (go_at_call 68; refine (at_any b pc t X L _ (New.shAt (by first | exact (HF3.out.trans HE.out).drew | exact HF3.out.trans HE.out | exact HF3.out.drew) HS.out) HX.out hl HA.out ht4).mono ?_; rintro e w4 ⟨rfl, hE⟩; rw [← HNA.out]; have hE' : New w3 w4 := Fr.trans (by first | exact HE.out.drew | exact HE.out | exact (Fr.refl _ _).drew | exact Fr.refl _ _) hE; have hs := hE'.leftS HLS.out (fun x => x) (fun x => x) (fun x => x); have hz := fun Y Z => hs.set nb1 nb2 nb3 Y Z; have hr := res2 (blk_kept hE' HR3.out); have HE := Lib.hid hE'; clear hE hE'; unfold LeftS at hs hz; obtain ⟨m1, m2, m3, m4, m5, m6⟩ := hr)
      | (go_at_call 38; refine (comes_any xa xb xc xd xp t _ ht4).mono ?_; rintro e w5 ⟨rfl, hE⟩; rw [← HNB.out]; have hE' : New w3 w5 := Fr.trans (by first | exact HE.out.drew | exact HE.out | exact (Fr.refl _ _).drew | exact Fr.refl _ _) hE; have hs := hE'.leftS HLS.out (fun x => x) (fun x => x) (fun x => x); have hz := fun Y Z => hs.set nb1 nb2 nb3 Y Z; have hr := res2 (blk_kept hE' HR3.out); have HE := Lib.hid hE'; clear hE hE'; unfold LeftS at hs hz; obtain ⟨m1, m2, m3, m4, m5, m6⟩ := hr))
  all_goals
    go_wp2
    refine bodyPost_ret (v := .agg #[.int .i64 (na : Int), .bool nb]) (by simp [results, Try.results67, go_sem, m5, m6]) rfl ⟨rfl, ?_⟩
    exact (by first | exact (((HF3.out.trans HE.out).setCell (.inr (Nat.le_succ _)) _).setCell (.inr (Nat.le_succ _)) _).drew | exact ((HF3.out.trans HE.out).setCell (.inr (Nat.le_succ _)) _).setCell (.inr (Nat.le_succ _)) _)
end Go.Proofs.Ytlicglicfijelaa
